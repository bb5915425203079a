/- Texts of this claim, pruned to what it needs and laid together by prune.py. -/
import Derived.Test.YtocechpmgfhenaaGreatDoorPC6
import Derived.Test.YtocechpmgfhenaaGreatDoorPC7
namespace Go.Proofs.YtocechpmgfhenaaGreatDoorW.PrintWords
open Go.RowKit
namespace Kd
structure Heap {α : Type} (d : Kd α) : Prop where
  K : ∀ {w w1 : World} {x : α} {cs : List Value}, (∀ k, k < w.heap.size → w1.heap[k]? = w.heap[k]?) → d.K w x cs → d.K w1 x cs
theorem heap_bot {α : Type} (sz : Nat) (E : List Nat) : Heap (bot sz E : Kd α) := ⟨fun _ h => h⟩
section
variable {α : Type} {d : Kd α} {e base g n c : Nat} {ok : Nat → Prop} {w w0 W : World} {A : Option Addr} {xs : List α}
end
end Kd
end Go.Proofs.YtocechpmgfhenaaGreatDoorW.PrintWords
