/- Regions that draw their order, whose operations read old memory and whose callees only make new memory: one walk, in the order of the text. -/
import Derived.Test.YthbnbfeolfkkaaaMem
import Derived.Deep.QuietTactic
import Derived.BigQuiet
namespace Go.Proofs.Ythbnbfeolfkkaaa
open Go.RowKit

/-- a world in which nothing has changed since w -/
structure Ups (w : World) where
  wld : World
  up : Below w.heap.size w wld
instance (w : World) : Nonempty (Ups w) := ⟨⟨w, Below.refl _ _⟩⟩
theorem wp_region_ups {P : Program} {id : Nat} {Q : Exit → Act → World → Prop} {a : Act} {w : World} {l : List Oper} (hm : P.follows .mixedOrders = true) (hB : Region.lexB .any l.toArray = true)
    (h : wpQuiet P l.toArray (fun w' => ∃ u : Ups w, w' = u.wld) (fun a' => ∀ w', (∃ u : Ups w, w' = u.wld) → Q .normal a' w') l a) : (Code.region id l.toArray true).wp P Q a w :=
  wp_region_quiet (C := fun w' => ∃ u : Ups w, w' = u.wld) hm hB ⟨⟨_, (Below.refl _ _).drew⟩, rfl⟩ (by simpa using h)
theorem calls_ups {P : Program} {f : FuncId} {args : Array Value} {w : World} {v : Value} {u : Ups w} (h : Calls P f args u.wld fun e w' => e = .returned v ∧ Below u.wld.heap.size u.wld w') :
    Calls P f args u.wld fun e w'' => e = .returned v ∧ ∃ u' : Ups w, w'' = u'.wld :=
  h.mono fun _ _ ⟨he, hb⟩ => ⟨he, ⟨⟨_, u.up.trans (hb.mono u.up.size)⟩, rfl⟩⟩
theorem calls_ups_eq {P : Program} {f : FuncId} {args : Array Value} {w : World} {v : Value} {u : Ups w} (h : Calls P f args u.wld fun e w' => e = .returned v ∧ w' = u.wld) :
    Calls P f args u.wld fun e w'' => e = .returned v ∧ ∃ u' : Ups w, w'' = u'.wld :=
  h.mono fun _ _ ⟨he, hb⟩ => ⟨he, ⟨u, hb⟩⟩
theorem Ups.stays {w : World} (u : Ups w) : Stays w u.wld := Stays.of u.up
theorem Ups.cellAt {w : World} {b o : Nat} {v : Option Value} (h : w.cell? ⟨b, o, none⟩ = v) (hb : b < w.heap.size) (u : Ups w) : u.wld.cell? ⟨b, o, none⟩ = v := (u.up.cell hb).trans h
end Go.Proofs.Ythbnbfeolfkkaaa
