/-
  The law KindReaches, in plain words: which types can be reached from any one is the document's.
-/
import Derived.Test.YtjmhkimffocpeaaKalive
import Derived.Test.YtjmhkimffocpeaaKclose
import Derived.Test.YtjmhkimffocpeaaK3x
namespace Go.Proofs.Ytjmhkimffocpeaa.KL
open Go.RowKit Go.Proofs.YtjmhkimffocpeaaW.PrintWords Go.Proofs.Ytjmhkimffocpeaa.Scan Go.Proofs.Ytjmhkimffocpeaa.K Go.Proofs.Ytjmhkimffocpeaa.KP Go.Proofs.Ytjmhkimffocpeaa.KR Go.Proofs.Ytjmhkimffocpeaa.KF Go.Proofs.Ytjmhkimffocpeaa.KG Go.Proofs.Ytjmhkimffocpeaa.KA Go.Proofs.Ytjmhkimffocpeaa.K3 Go.Proofs.Ytjmhkimffocpeaa.KC

theorem reach_len (ts : List ByteArray) (t : Int) : (KG.reach' ts t).length ≤ 9 := by
  classical
  unfold KG.reach'
  split
  · rename_i h
    have := outs_len t (rnd ts (KF.start t) ts.length) ts.length
    have := h.1.2.2
    omega
  · simp
theorem KindReaches_pure (ts : List ByteArray) (t : Int) (hl : (ts.length : Int) ≤ 9223372036854775807) (hs : ∀ s ∈ ts, (s.size : Int) ≤ 9223372036854775807) (_w : (Lit.int .i64 t).wf = true) :
    Ev (fun k => lockstitchlaw03_KindReaches.f k ts t) true := by
  classical
  unfold lockstitchlaw03_KindReaches.f
  refine ev_bind alive_ev (Ev.congr (fun k => if_pos rfl) (ev_bind (few_ev ts hl) ?_))
  by_cases hf : Few ts
  · rw [decide_eq_true hf]
    refine Ev.congr (fun k => if_pos rfl) ?_
    refine ev_bind (a := KG.reach ts t) (ev_all fun _ => if_pos hs) (ev_bind (a := KG.reach' ts t) (ev_all fun _ => if_pos hs) ?_)
    rw [reach_same]
    have := same_ev (KG.reach' ts t) (KG.reach' ts t) (by have := reach_len ts t; omega)
    rw [decide_eq_true rfl] at this
    exact ev_bind this ev_const
  · rw [decide_eq_false hf]
    exact Ev.congr (fun k => if_neg (by decide)) ev_const
end Go.Proofs.Ytjmhkimffocpeaa.KL
