/- A region that draws its order, whose operations read old memory and call functions that leave old memory alone and yield one value: one walk in the order of the text serves every order. -/
import Derived.Test.YthndnkafckapnaaGreatDoorRep
import Derived.BigQuiet
namespace Go.Proofs.YthndnkafckapnaaGreatDoor
open Go.RowKit

/-- A world in which nothing that w had has turned. -/
structure Later (w : World) : Type where
  at_ : World
  ext : Ext w at_

instance (w : World) : Nonempty (Later w) := ⟨⟨w, Ext.refl w⟩⟩

@[go_sem] theorem later_cell {w : World} (n : Later w) (b o : Nat) (h : b < w.heap.size) : n.at_.cell? ⟨b, o, none⟩ = w.cell? ⟨b, o, none⟩ := (Ext.cells n.ext).1 b o h
@[go_sem] theorem later_frozen {w : World} (n : Later w) (b o : Nat) (h : b < w.heap.size) : n.at_.frozen? ⟨b, o, none⟩ = w.frozen? ⟨b, o, none⟩ := (Ext.cells n.ext).2 b o h

theorem calm_region {P : Program} {id : Nat} {Q : Exit → Act → World → Prop} {a : Act} {w : World} {l : List Oper} (hm : P.follows .mixedOrders = true) (hB : Region.lexB .any l.toArray = true)
    (h : wpQuiet P l.toArray (fun w' => ∃ n : Later w, w' = n.at_) (fun a' => ∀ w', (∃ n : Later w, w' = n.at_) → Q .normal a' w') l a) : (Code.region id l.toArray true).wp P Q a w :=
  wp_region_quiet (C := fun w' => ∃ n : Later w, w' = n.at_) hm hB ⟨⟨w.drew, (Ext.refl w).drew⟩, rfl⟩ (by simpa using h)

theorem calm_call {P : Program} {f : FuncId} {args : Array Value} {w : World} {n : Later w} {v : Value} (h : Calls P f args n.at_ fun e w' => e = .returned v ∧ Ext n.at_ w') :
    Calls P f args n.at_ fun e w'' => e = .returned v ∧ ∃ m : Later w, w'' = m.at_ :=
  h.mono fun _ w'' ⟨he, hx⟩ => ⟨he, ⟨w'', n.ext.trans' hx⟩, rfl⟩
theorem calm_same {P : Program} {f : FuncId} {args : Array Value} {w : World} {n : Later w} {v : Value} (h : Calls P f args n.at_ fun e w' => e = .returned v ∧ w' = n.at_) :
    Calls P f args n.at_ fun e w'' => e = .returned v ∧ ∃ m : Later w, w'' = m.at_ :=
  h.mono fun _ _ ⟨he, hx⟩ => ⟨he, n, hx⟩

end Go.Proofs.YthndnkafckapnaaGreatDoor
