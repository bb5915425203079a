/- Texts of this claim, pruned to what it needs and laid together by prune.py. -/
import Derived.Test.YtkplgfhkebkaaaaDoorMB39
import Derived.Test.YtkplgfhkebkaaaaDoorMB40
import Derived.Test.YtkplgfhkebkaaaaDoorMB28
import Derived.Test.YtkplgfhkebkaaaaDoorMB37
import Derived.Outline
import Derived.Deep.LoopGhost
import Derived.Test.YtkplgfhkebkaaaaDoorMB1
import Derived.SliceStrings
import Derived.ProofKit
import Derived.OpenShut
import Derived.ShutString
import Derived.ChangeOld
import Derived.SizedLaws
import Derived.ChangeArms
namespace Go.Proofs.YtkplgfhkebkaaaaDoor.LL
open Go.RowKit Go.Proofs.YtkplgfhkebkaaaaDoorW.PrintWords Go.Proofs.YtkplgfhkebkaaaaDoorW.PrintMore Go.Proofs.YtkplgfhkebkaaaaDoor.Scan Go.Proofs.YtkplgfhkebkaaaaDoor.F Go.Proofs.YtkplgfhkebkaaaaDoor.FM Go.Proofs.YtkplgfhkebkaaaaDoor.H Go.Proofs.YtkplgfhkebkaaaaDoor.TT Go.Proofs.YtkplgfhkebkaaaaDoor.NX Go.Proofs.YtkplgfhkebkaaaaDoor.FP Go.Proofs.YtkplgfhkebkaaaaDoor.FL Go.Proofs.YtkplgfhkebkaaaaDoor.B8 Go.Proofs.YtkplgfhkebkaaaaDoor.V Go.Proofs.YtkplgfhkebkaaaaDoor.LB Go.Proofs.YtkplgfhkebkaaaaDoor.LG Go.Proofs.YtkplgfhkebkaaaaDoor.GL
set_option linter.unusedVariables false
def a0 : List S47 := [⟨5, 0, 0, 0, 0⟩, ⟨8, 0, 0, 0, 0⟩]
theorem a0_inR : InR (nxt a0) (a0.length + 1) := by
  intro k m hm
  by_cases h : 0 ≤ k ∧ k < a0.length
  · have hl : a0.length = 2 := rfl
    rw [hl] at h ⊢
    obtain rfl | rfl : k = 0 ∨ k = 1 := by omega
    · have e : nxt a0 0 = [1] := by decide
      rw [e, List.mem_singleton] at hm
      omega
    · have e : nxt a0 1 = [2] := by decide
      rw [e, List.mem_singleton] at hm
      omega
  · have e : nxt a0 k = [] := by unfold nxt; rw [if_neg h]
    rw [e] at hm
    cases hm
theorem wf_small {a b c d : Int} (ha : 0 ≤ a ∧ a ≤ 15) (hb : 0 ≤ b ∧ b ≤ 15) (hc : 0 ≤ c ∧ c ≤ 15) (hd : 0 ≤ d ∧ d ≤ 15) : WfI a b c d 0 := ⟨by omega, by omega, by omega, by omega, by omega, by omega⟩
theorem a0_wf : WfC a0 := by
  intro x hx
  simp only [a0, List.mem_cons, List.not_mem_nil, or_false] at hx
  rcases hx with rfl | rfl
  · exact wf_small (by decide) (by decide) (by decide) (by decide)
  · exact wf_small (by decide) (by decide) (by decide) (by decide)
theorem a0_lv : lvI a0 = [0, 1, 0] := by decide +kernel
theorem alive_ev : Ev (fun k => lockstitchlaw08_alive.f k) true := by
  have e : live_In.f [(⟨#[105]⟩ : ByteArray)] (⟨#[48]⟩ : ByteArray) (⟨#[]⟩ : ByteArray) a0 = some [0, 1, 0] := by
    rw [← a0_lv]
    exact if_pos ⟨a0_inR, by decide, a0_wf⟩
  have u : Ev (fun k => live_Uses.f k 11 1 2 0 0) 6 := uses_ev (wf_small (by decide) (by decide) (by decide) (by decide))
  have s : Ev (fun k => live_Sets.f k 7 3 0 0 0) 8 := sets_ev (wf_small (by decide) (by decide) (by decide) (by decide))
  refine ev_bind (ev_all fun _ => e) (Ev.congr (fun k => if_pos (by decide)) (Ev.congr (fun k => if_pos (by decide)) (Ev.congr (fun k => if_pos (by decide)) (Ev.congr (fun k => if_pos (by decide)) (Ev.congr (fun k => if_pos (by decide)) (Ev.congr (fun k => if_pos (by decide)) (Ev.congr (fun k => if_pos (by decide)) ?_)))))))
  exact ev_bind u (Ev.congr (fun k => if_pos rfl) (ev_bind s ev_const))
end Go.Proofs.YtkplgfhkebkaaaaDoor.LL

namespace Go.Proofs.YtkplgfhkebkaaaaDoor.ST
open Go.RowKit Go.Proofs.YtkplgfhkebkaaaaDoorW.PrintWords Go.Proofs.YtkplgfhkebkaaaaDoor.Scan Go.Proofs.YtkplgfhkebkaaaaDoor.F Go.Proofs.YtkplgfhkebkaaaaDoor.KP Go.Proofs.YtkplgfhkebkaaaaDoor.TT Go.Proofs.YtkplgfhkebkaaaaDoor.NX Go.Proofs.YtkplgfhkebkaaaaDoor.FP Go.Proofs.YtkplgfhkebkaaaaDoor.FL Go.Proofs.YtkplgfhkebkaaaaDoor.B8 Go.Proofs.YtkplgfhkebkaaaaDoor.LB
set_option linter.unusedVariables false
set_option linter.unusedSectionVars false
structure Alk (L : S8) (s t : PS) : Prop where
  x : ∀ k : Nat, k < 8 → s.n k = t.n k
  gs : ∀ k : Nat, k < 4 → s.n (16 + k) = t.n (16 + k)
  p : ∀ a : Nat, a < 8 → L.getLsbD a = true → s.n (8 + a) = t.n (8 + a)
  objs : s.objs = t.objs
  out : s.out = t.out
  pc : s.pc = t.pc
  steps : s.steps = t.steps
section
variable {L L' : S8} {s t : PS}
end
section
variable {loc glb sz : Int → Int} {to_ : Int → Int → Int} {x : S47} (hx : KK loc glb sz to_ x) (h1 : 0 ≤ x.f1) (h2 : 0 ≤ x.f2) (h3 : 0 ≤ x.f3) (hop : 1 ≤ x.f0 ∧ x.f0 ≤ 15) (hj : x.f0 ≠ 3 ∧ x.f0 ≠ 4)
include hx h1 h2 h3 hop hj
end
end Go.Proofs.YtkplgfhkebkaaaaDoor.ST

namespace Go.Proofs.YtkplgfhkebkaaaaDoor.ST
open Go.RowKit Go.Proofs.YtkplgfhkebkaaaaDoorW.PrintWords Go.Proofs.YtkplgfhkebkaaaaDoor.Scan Go.Proofs.YtkplgfhkebkaaaaDoor.F Go.Proofs.YtkplgfhkebkaaaaDoor.KP Go.Proofs.YtkplgfhkebkaaaaDoor.TT Go.Proofs.YtkplgfhkebkaaaaDoor.NX Go.Proofs.YtkplgfhkebkaaaaDoor.FP Go.Proofs.YtkplgfhkebkaaaaDoor.FL Go.Proofs.YtkplgfhkebkaaaaDoor.B8 Go.Proofs.YtkplgfhkebkaaaaDoor.LB
set_option linter.unusedVariables false
set_option linter.unusedSectionVars false
section
variable {ts : List ByteArray} {la gl : ByteArray} {code : List S47} (h : SP ts la gl code) (hl : (ts.length : Int) ≤ 9223372036854775807) (hs : ∀ s ∈ ts, (s.size : Int) ≤ 9223372036854775807) (hla : Fit la) (hgl : Fit gl) (hw : WfC code)
include h hl hs hla hgl hw
theorem step_range {s u : PS} (h0 : 0 ≤ s.pc) (h1 : s.pc < code.length) (e : stepP (size ts) (atv ts la) code s = (u, false, 0)) : 0 ≤ u.pc ∧ u.pc ≤ code.length := by
  have := SP.inR h _ _ (step_next h hl hs hla hgl hw h0 h1 e)
  omega
theorem step_wt {ty : List Int} {s u : PS} (h0 : 0 ≤ s.pc) (h1 : s.pc < code.length) (ht : WT (atv ts la) (atv ts gl) (size ts) (to_ ts) ty s) (e : stepP (size ts) (atv ts la) code s = (u, false, 0)) :
    ∃ ty', WT (atv ts la) (atv ts gl) (size ts) (to_ ts) ty' u := by
  obtain ⟨q, hq⟩ := Int.eq_ofNat_of_zero_le h0
  have hql : q < code.length := by omega
  have hx := hw.rd q hql
  have kk := SP.kk h hl hs hla hgl hw q hql
  have hop := (h.all q hql).op
  unfold stepP at e
  rw [if_neg (by omega), hq] at e
  by_cases hc : (rd_T47 code q).f0 = 3 ∨ ((rd_T47 code q).f0 = 4 ∧ s.n (rd_T47 code q).f1.toNat = 0)
  · rw [if_pos hc] at e
    obtain rfl := fst_eq e
    exact ⟨ty, ht.pc _ _ _⟩
  · rw [if_neg hc] at e
    by_cases h4 : (rd_T47 code q).f0 = 4
    · rw [if_pos h4] at e
      obtain rfl := fst_eq e
      exact ⟨ty, ht.pc _ _ _⟩
    · rw [if_neg h4] at e
      split at e
      · rename_i w hw'
        obtain rfl := fst_eq e
        exact stepN_wt kk hx.2.1.1 hx.2.2.1.1 hop ⟨fun hh => hc (.inl hh), h4⟩ (ht.pc ((q : Int) + 1) (wrap64 (s.steps + 1)) s.out) hw'
      · have := congrArg (fun p => p.2.2) e
        simp at this
end
end Go.Proofs.YtkplgfhkebkaaaaDoor.ST

namespace Go.Proofs.YtkplgfhkebkaaaaDoor.ST
open Go.RowKit Go.Proofs.YtkplgfhkebkaaaaDoorW.PrintWords Go.Proofs.YtkplgfhkebkaaaaDoor.Scan Go.Proofs.YtkplgfhkebkaaaaDoor.F Go.Proofs.YtkplgfhkebkaaaaDoor.KP Go.Proofs.YtkplgfhkebkaaaaDoor.TT Go.Proofs.YtkplgfhkebkaaaaDoor.NX Go.Proofs.YtkplgfhkebkaaaaDoor.FP Go.Proofs.YtkplgfhkebkaaaaDoor.FL Go.Proofs.YtkplgfhkebkaaaaDoor.B8 Go.Proofs.YtkplgfhkebkaaaaDoor.LB
set_option linter.unusedVariables false
set_option linter.unusedSectionVars false
def jmp (code : List S47) (s : PS) : PS := { s with pc := if (rd_T47 code s.pc).f0 = 3 ∨ ((rd_T47 code s.pc).f0 = 4 ∧ s.n (rd_T47 code s.pc).f1.toNat = 0) then (rd_T47 code s.pc).f4 else s.pc + 1, steps := wrap64 (s.steps + 1) }
section
variable {ts : List ByteArray} {la gl : ByteArray} {code : List S47} (h : SP ts la gl code) (hl : (ts.length : Int) ≤ 9223372036854775807) (hs : ∀ s ∈ ts, (s.size : Int) ≤ 9223372036854775807) (hla : Fit la) (hgl : Fit gl) (hw : WfC code)
include h hl hs hla hgl hw
end
structure Seen (code : List S47) (seen since : Int → Bool) (pc : Int) : Prop where
  rn : ∀ m, seen m = true → RN (nxt code) m pc
  lt : ∀ m, since m = true → m < pc
end Go.Proofs.YtkplgfhkebkaaaaDoor.ST

namespace Go.Proofs.YtkplgfhkebkaaaaDoor.ST
open Go.RowKit Go.Proofs.YtkplgfhkebkaaaaDoorW.PrintWords Go.Proofs.YtkplgfhkebkaaaaDoor.Scan Go.Proofs.YtkplgfhkebkaaaaDoor.F Go.Proofs.YtkplgfhkebkaaaaDoor.FM Go.Proofs.YtkplgfhkebkaaaaDoor.H Go.Proofs.YtkplgfhkebkaaaaDoor.KP Go.Proofs.YtkplgfhkebkaaaaDoor.TT Go.Proofs.YtkplgfhkebkaaaaDoor.NX Go.Proofs.YtkplgfhkebkaaaaDoor.FP Go.Proofs.YtkplgfhkebkaaaaDoor.FL
set_option linter.unusedVariables false
set_option linter.unusedSectionVars false
section
variable {ts : List ByteArray} {la gl : ByteArray} {code : List S47} (hl : (ts.length : Int) ≤ 9223372036854775807) (hsz : ∀ s ∈ ts, (s.size : Int) ≤ 9223372036854775807) (hla : Fit la) (hgl : Fit gl) (hc : (code.length : Int) ≤ 9223372036854775807) (hw : WfC code)
include hl hsz hla hgl hc hw
theorem sound_chk : ∃ b, Ev (fun k => lockstitchlaw07_Sound.f k ts la gl code) b ∧ (b = true → SP ts la gl code ∧ ∃ ck, Ev (fun k => lockstitchref05_Check.f k ts la gl code) (ck, 0)) := by
  obtain ⟨q, hq⟩ : Tot (fun k => lockstitchlaw04_Few.f k ts la gl code) := few_l0 ts hl la gl code ts.length 0 _ (Nat.zero_add _)
  cases q with
  | false => exact ⟨false, ev_bind hq (Ev.congr (fun k => if_neg (by decide)) ev_const), fun e => by cases e⟩
  | true =>
    by_cases h : (code.length : Int) > 60
    · exact ⟨false, ev_bind hq (Ev.congr (fun k => if_pos rfl) (Ev.congr (fun k => if_pos h) ev_const)), fun e => by cases e⟩
    · obtain ⟨r, h1, h2⟩ := check_tot ts hl hsz la gl hla hgl code hc hw
      refine ⟨_, ev_bind hq (Ev.congr (fun k => if_pos rfl) (Ev.congr (fun k => if_neg h) (ev_bind h1 ev_const))), fun e => ?_⟩
      have e0 : r.2 = 0 := beq_iff_eq.1 e
      obtain ⟨a, b, c, d⟩ := h2 e0
      exact ⟨⟨a, by omega, b, c, d⟩, r.1, by rw [← e0]; exact h1⟩
end
section
variable {w : World} {A0 : Option Addr} {c0 : Nat} {ts : List ByteArray} {la gl : ByteArray} {A3 : Option Addr} {c3 : Nat} {code : List S47} {P : Nat → Prop}
  (hT : Kd.C Kd.string w A0 ts.length ts) (hc0 : ts.length ≤ c0) (hC : Kd.C k47 w A3 code.length code) (hc3 : code.length ≤ c3) {kc : Nat} {ck : Int} (hK : lockstitchref05_Check.f kc ts la gl code = some (ck, 0)) (htab : TB w)
  (hsp : SP ts la gl code) (hl : (ts.length : Int) ≤ 9223372036854775807) (hsz : ∀ s ∈ ts, (s.size : Int) ≤ 9223372036854775807) (hla : Fit la) (hgl : Fit gl) (hw : WfC code)
  {s : PS} {cs : Array Value} (hS : IsS w P s cs) {ty : List Int} (hW : WT (atv ts la) (atv ts gl) (size ts) (to_ ts) ty s) (h0 : 0 ≤ s.pc) (h1 : s.pc ≤ code.length) (hn1 : s.objs.length ≤ 1000000) (hn2 : s.out.length ≤ 1000000)
include hT hc0 hC hc3 hK htab hsp hl hsz hla hgl hw hS hW h0 h1 hn1 hn2
theorem Step_ps : Calls Tryd.prog 12 #[.agg #[.slice A0 ts.length c0, .string la, .string gl, .slice A3 code.length c3], .agg cs] w fun e w' =>
    ∃ cs', e = .returned (.tuple #[.agg cs', .bool (stepP (size ts) (atv ts la) code s).2.1, .int .i64 (stepP (size ts) (atv ts la) code s).2.2]) ∧ IsS w' (fun k => P k ∨ w.heap.size ≤ k) (stepP (size ts) (atv ts la) code s).1 cs' ∧ Below w.heap.size w w' := by
  obtain ⟨oA, hs, oc, tA, tc, rfl, hoc, htc, hO, hTo⟩ := hS
  obtain ⟨p, hp⟩ := Int.eq_ofNat_of_zero_le h0
  obtain ⟨n, objs, out, pc, st⟩ := s
  simp only at hp hoc htc hO hTo hn1 hn2 h0 h1 ⊢
  subst hp
  have hLoc : ∀ a : Int, 0 ≤ a → a ≤ 255 → Ev (fun k => lockstitchref05_Local.f k ts la gl code a) (atv ts la a) := fun a ha0 ha1 => ev_bind (at_ev ts hl hsz la hla a ha0 ha1) ev_const
  have hSz : ∀ x : Int, Ev (fun k => lockstitchref03_Size.f k ts x) (size ts x) := fun x => ref_Size_ev ts hl hsz x
  have hlen := hO.now.len
  have hWl := hW.len
  simp only at hWl
  by_cases he : (p : Int) = code.length
  · have e : stepP (size ts) (atv ts la) code ⟨n, objs, out, p, st⟩ = (⟨n, objs, out, p, st⟩, true, 0) := if_pos he
    rw [e]
    exact ps_end hT hc0 hC hc3 hK htab hLoc hSz hO hoc hTo htc (by omega)
  have hpl : p < code.length := by omega
  have hx := hw.rd p hpl
  have kk := SP.kk hsp hl hsz hla hgl hw p hpl
  have hop := (hsp.all p hpl).op
  obtain ⟨⟨o0, _⟩, ⟨a0, a9⟩, ⟨b0, b9⟩, ⟨c0', c9⟩, _⟩ := hx
  obtain ⟨a, ha⟩ := Int.eq_ofNat_of_zero_le a0
  obtain ⟨b, hb⟩ := Int.eq_ofNat_of_zero_le b0
  obtain ⟨c, hc⟩ := Int.eq_ofNat_of_zero_le c0'
  obtain ⟨N, hN⟩ : ∃ N, (rd_T47 code p).f4 = N := ⟨_, rfl⟩
  have kia := kk.ia
  have kib := kk.ib
  have kic := kk.ic
  have kpa := kk.pa
  have kpb := kk.pb
  have kpc := kk.pc
  have kga := kk.ga
  have kgb := kk.gb
  rw [ha] at kia kpa kga
  rw [hb] at kib kpb kgb
  rw [hc] at kic kpc
  have FLD : ∀ {q : Nat} {t : Int}, (q : Int) < 8 → atv ts la (q : Int) = t → ¬ n (8 + q) = 0 → 0 ≤ N → N < size ts t → ∃ o f : Nat, n (8 + q) = (o : Int) + 1 ∧ N = (f : Int) ∧ o < hs.length ∧ f < (objs.getD o []).length ∧ (objs.getD o []).length ≤ 1000000 := by
    intro q t hq et hz hN0 hN1
    have := (hW.ps q (by omega)).resolve_left hz
    simp only at this
    obtain ⟨g1, g2, g3⟩ := this
    rw [et] at g3
    have hol := hW.os (n (8 + q) - 1).toNat (by simp only; omega)
    simp only at hol
    rw [g3] at hol
    have h6 := typ_le ts t
    have hs6 : size ts t ≤ 6 := by unfold size; omega
    exact ⟨(n (8 + q) - 1).toNat, N.toNat, by omega, by omega, by omega, by omega, by omega⟩
  unfold stepP
  simp only
  rw [if_neg he]
  by_cases o3 : (rd_T47 code p).f0 = 3
  · rw [if_pos (.inl o3)]
    simp only
    rw [hN]
    exact ps_jump hT hc0 hC hc3 hK htab hLoc hSz hO hoc hTo htc a b c N hpl o3 ha hb hc hN
  by_cases o4 : (rd_T47 code p).f0 = 4
  · have hx8 := kia (by omega)
    by_cases hz : n a = 0
    · rw [if_pos (.inr ⟨o4, by rw [ha]; simpa using hz⟩)]
      simp only
      rw [hN]
      exact ps_zero hT hc0 hC hc3 hK htab hLoc hSz hO hoc hTo htc a b c N hpl o4 ha hb hc hN hx8 hz
    · rw [if_neg (by rintro (e | e); exact o3 e; exact hz (by have := e.2; rw [ha] at this; simpa using this)), if_pos o4]
      simp only
      exact ps_pass hT hc0 hC hc3 hK htab hLoc hSz hO hoc hTo htc a b c N hpl o4 ha hb hc hN hx8 hz
  rw [if_neg (by rintro (e | e); exact o3 e; exact o4 e.1), if_neg o4]
  unfold stepN
  simp only
  rw [ha, hb, hc, hN]
  simp only [Int.toNat_natCast]
  by_cases g1 : (rd_T47 code p).f0 = 1
  · rw [if_pos g1]
    exact ps_set hT hc0 hC hc3 hK htab hLoc hSz hO hoc hTo htc a b c N hpl g1 ha hb hc hN (kia (by omega))
  rw [if_neg g1]
  by_cases g2 : (rd_T47 code p).f0 = 2
  · rw [if_pos g2]
    exact ps_add hT hc0 hC hc3 hK htab hLoc hSz hO hoc hTo htc a b c N hpl g2 ha hb hc hN (kia (by omega)) (kib (by omega)) (kic (by omega))
  rw [if_neg g2]
  by_cases g15 : (rd_T47 code p).f0 = 15
  · rw [if_pos g15]
    by_cases hh : n (8 + b) = n (8 + c)
    · rw [if_pos hh]
      exact ps_same_eq hT hc0 hC hc3 hK htab hLoc hSz hO hoc hTo htc a b c N hpl g15 ha hb hc hN (kia (by omega)) (kpb (by omega)) (kpc (by omega)) hh
    · rw [if_neg hh]
      exact ps_same_ne hT hc0 hC hc3 hK htab hLoc hSz hO hoc hTo htc a b c N hpl g15 ha hb hc hN (kia (by omega)) (kpb (by omega)) (kpc (by omega)) hh
  rw [if_neg g15]
  by_cases g14 : (rd_T47 code p).f0 = 14
  · rw [if_pos g14]
    exact ps_print hT hc0 hC hc3 hK htab hLoc hSz hO hoc hTo htc a b c N hpl g14 ha hb hc hN (kia (by omega)) hn2
  rw [if_neg g14]
  by_cases g5 : (rd_T47 code p).f0 = 5
  · rw [if_pos g5]
    obtain ⟨k1, e1⟩ := ev_at (hLoc (a : Int) (by omega) (by omega))
    obtain ⟨k2, e2⟩ := ev_at (hSz (atv ts la (a : Int)))
    have h6 := typ_le ts (atv ts la (a : Int))
    have en : size ts (atv ts la (a : Int)) = (((size ts (atv ts la (a : Int))).toNat : Nat) : Int) := by unfold size; omega
    rw [en] at e2
    have e5 : ((objs.length + 1 : Nat) : Int) = (hs.length : Int) + 1 := by omega
    rw [e5]
    exact ps_new hT hc0 hC hc3 hK htab hLoc hSz hO hoc hTo htc a b c N hpl g5 ha hb hc hN (kpa (by omega)) (by omega) (size ts (atv ts la (a : Int))).toNat k1 k2 _ (by unfold size; omega) e1 e2
  rw [if_neg g5]
  by_cases g6 : (rd_T47 code p).f0 = 6
  · rw [if_pos g6]
    exact ps_nil hT hc0 hC hc3 hK htab hLoc hSz hO hoc hTo htc a b c N hpl g6 ha hb hc hN (kpa (by omega))
  rw [if_neg g6]
  by_cases g7 : (rd_T47 code p).f0 = 7
  · rw [if_pos g7]
    exact ps_move hT hc0 hC hc3 hK htab hLoc hSz hO hoc hTo htc a b c N hpl g7 ha hb hc hN (kpa (by omega)) (kpb (by omega))
  rw [if_neg g7]
  by_cases g12 : (rd_T47 code p).f0 = 12
  · rw [if_pos g12]
    exact ps_loadG hT hc0 hC hc3 hK htab hLoc hSz hO hoc hTo htc a b c N hpl g12 ha hb hc hN (kpa (by omega)) (kgb (by omega))
  rw [if_neg g12]
  by_cases g13 : (rd_T47 code p).f0 = 13
  · rw [if_pos g13]
    exact ps_storeG hT hc0 hC hc3 hK htab hLoc hSz hO hoc hTo htc a b c N hpl g13 ha hb hc hN (kga (by omega)) (kpb (by omega))
  rw [if_neg g13]
  by_cases g8 : (rd_T47 code p).f0 = 8
  · rw [if_pos g8]
    by_cases hz : n (8 + b) = 0
    · rw [if_pos hz]
      exact ps_none8 hT hc0 hC hc3 hK htab hLoc hSz hO hoc hTo htc a b c N hpl g8 ha hb hc hN (kpb (by omega)) hz
    · rw [if_neg hz]
      obtain ⟨_, k2, k3⟩ := kk.loadI g8
      rw [hb, hN] at k3
      rw [hN] at k2
      obtain ⟨o, f, q1, q2, q3, q4, _⟩ := FLD (kpb (by omega)) rfl hz k2 k3
      have ef : fld objs (n (8 + b)) N = (objs.getD o []).getD f 0 := by unfold fld; rw [q1, q2]; simp
      rw [ef]
      exact ps_loadI hT hc0 hC hc3 hK htab hLoc hSz hO hoc hTo htc a b c o f hpl g8 ha hb hc (hN.trans q2) q3 q4 q1 (kia (by omega)) (kpb (by omega))
  rw [if_neg g8]
  by_cases g10 : (rd_T47 code p).f0 = 10
  · rw [if_pos g10]
    by_cases hz : n (8 + b) = 0
    · rw [if_pos hz]
      exact ps_none10 hT hc0 hC hc3 hK htab hLoc hSz hO hoc hTo htc a b c N hpl g10 ha hb hc hN (kpb (by omega)) hz
    · rw [if_neg hz]
      obtain ⟨k2, k3, _⟩ := kk.loadP g10
      rw [hb, hN] at k3
      rw [hN] at k2
      obtain ⟨o, f, q1, q2, q3, q4, _⟩ := FLD (kpb (by omega)) rfl hz k2 k3
      have ef : fld objs (n (8 + b)) N = (objs.getD o []).getD f 0 := by unfold fld; rw [q1, q2]; simp
      rw [ef]
      exact ps_loadP hT hc0 hC hc3 hK htab hLoc hSz hO hoc hTo htc a b c o f hpl g10 ha hb hc (hN.trans q2) q3 q4 q1 (kpa (by omega)) (kpb (by omega))
  rw [if_neg g10]
  by_cases g9 : (rd_T47 code p).f0 = 9
  · rw [if_pos g9]
    by_cases hz : n (8 + a) = 0
    · rw [if_pos hz]
      exact ps_none9 hT hc0 hC hc3 hK htab hLoc hSz hO hoc hTo htc a b c N hpl g9 ha hb hc hN (kpa (by omega)) hz
    · rw [if_neg hz]
      obtain ⟨k2, k3, _⟩ := kk.storeI g9
      rw [ha, hN] at k3
      rw [hN] at k2
      obtain ⟨o, f, q1, q2, q3, q4, q5⟩ := FLD (kpa (by omega)) rfl hz k2 k3
      have ef : ∀ v, putF objs (n (8 + a)) N v = objs.set o ((objs.getD o []).set f v) := fun v => by unfold putF; rw [q1, q2]; simp
      rw [ef]
      exact ps_storeI hT hc0 hC hc3 hK htab hLoc hSz hO hoc hTo htc a b c o f hpl g9 ha hb hc (hN.trans q2) q3 q4 (by omega) q5 q1 (kpa (by omega)) (kib (by omega))
  rw [if_neg g9]
  have g11 : (rd_T47 code p).f0 = 11 := by omega
  by_cases hz : n (8 + a) = 0
  · rw [if_pos hz]
    exact ps_none11 hT hc0 hC hc3 hK htab hLoc hSz hO hoc hTo htc a b c N hpl g11 ha hb hc hN (kpa (by omega)) hz
  · rw [if_neg hz]
    obtain ⟨k2, k3, _⟩ := kk.storeP g11
    rw [ha, hN] at k3
    rw [hN] at k2
    obtain ⟨o, f, q1, q2, q3, q4, q5⟩ := FLD (kpa (by omega)) rfl hz k2 k3
    have ef : ∀ v, putF objs (n (8 + a)) N v = objs.set o ((objs.getD o []).set f v) := fun v => by unfold putF; rw [q1, q2]; simp
    rw [ef]
    exact ps_storeP hT hc0 hC hc3 hK htab hLoc hSz hO hoc hTo htc a b c o f hpl g11 ha hb hc (hN.trans q2) q3 q4 (by omega) q5 q1 (kpa (by omega)) (kpb (by omega))
end
end Go.Proofs.YtkplgfhkebkaaaaDoor.ST

namespace Go.Proofs.YtkplgfhkebkaaaaDoor.ST
open Go.RowKit Go.Proofs.YtkplgfhkebkaaaaDoorW.PrintWords Go.Proofs.YtkplgfhkebkaaaaDoor.Scan Go.Proofs.YtkplgfhkebkaaaaDoor.F Go.Proofs.YtkplgfhkebkaaaaDoor.FM Go.Proofs.YtkplgfhkebkaaaaDoor.H Go.Proofs.YtkplgfhkebkaaaaDoor.KP Go.Proofs.YtkplgfhkebkaaaaDoor.TT Go.Proofs.YtkplgfhkebkaaaaDoor.NX Go.Proofs.YtkplgfhkebkaaaaDoor.FP Go.Proofs.YtkplgfhkebkaaaaDoor.FL
set_option linter.unusedVariables false
set_option linter.unusedSectionVars false
theorem stepN_len {sz loc : Int → Int} {x : S47} {s u : PS} (e : stepN sz loc x s = some u) : u.objs.length ≤ s.objs.length + 1 ∧ u.out.length ≤ s.out.length + 1 ∧ s.objs.length ≤ u.objs.length := by
  have hp : ∀ o f v, (putF s.objs o f v).length = s.objs.length := fun o f v => by unfold putF; rw [List.length_set]
  unfold stepN at e
  by_cases o1 : x.f0 = 1
  · rw [if_pos o1] at e
    obtain rfl := Option.some.inj e
    exact ⟨Nat.le_succ _, Nat.le_succ _, Nat.le_refl _⟩
  rw [if_neg o1] at e
  by_cases o2 : x.f0 = 2
  · rw [if_pos o2] at e
    obtain rfl := Option.some.inj e
    exact ⟨Nat.le_succ _, Nat.le_succ _, Nat.le_refl _⟩
  rw [if_neg o2] at e
  by_cases o15 : x.f0 = 15
  · rw [if_pos o15] at e
    obtain rfl := Option.some.inj e
    exact ⟨Nat.le_succ _, Nat.le_succ _, Nat.le_refl _⟩
  rw [if_neg o15] at e
  by_cases o14 : x.f0 = 14
  · rw [if_pos o14] at e
    obtain rfl := Option.some.inj e
    exact ⟨Nat.le_succ _, by simp, Nat.le_refl _⟩
  rw [if_neg o14] at e
  by_cases o5 : x.f0 = 5
  · rw [if_pos o5] at e
    obtain rfl := Option.some.inj e
    exact ⟨by simp, Nat.le_succ _, by simp⟩
  rw [if_neg o5] at e
  by_cases o6 : x.f0 = 6
  · rw [if_pos o6] at e
    obtain rfl := Option.some.inj e
    exact ⟨Nat.le_succ _, Nat.le_succ _, Nat.le_refl _⟩
  rw [if_neg o6] at e
  by_cases o7 : x.f0 = 7
  · rw [if_pos o7] at e
    obtain rfl := Option.some.inj e
    exact ⟨Nat.le_succ _, Nat.le_succ _, Nat.le_refl _⟩
  rw [if_neg o7] at e
  by_cases o12 : x.f0 = 12
  · rw [if_pos o12] at e
    obtain rfl := Option.some.inj e
    exact ⟨Nat.le_succ _, Nat.le_succ _, Nat.le_refl _⟩
  rw [if_neg o12] at e
  by_cases o13 : x.f0 = 13
  · rw [if_pos o13] at e
    obtain rfl := Option.some.inj e
    exact ⟨Nat.le_succ _, Nat.le_succ _, Nat.le_refl _⟩
  rw [if_neg o13] at e
  by_cases o8 : x.f0 = 8
  · rw [if_pos o8] at e
    split at e
    · cases e
    · obtain rfl := Option.some.inj e
      exact ⟨Nat.le_succ _, Nat.le_succ _, Nat.le_refl _⟩
  rw [if_neg o8] at e
  by_cases o10 : x.f0 = 10
  · rw [if_pos o10] at e
    split at e
    · cases e
    · obtain rfl := Option.some.inj e
      exact ⟨Nat.le_succ _, Nat.le_succ _, Nat.le_refl _⟩
  rw [if_neg o10] at e
  by_cases o9 : x.f0 = 9
  · rw [if_pos o9] at e
    split at e
    · cases e
    · obtain rfl := Option.some.inj e
      exact ⟨by rw [hp]; exact Nat.le_succ _, Nat.le_succ _, by rw [hp]; exact Nat.le_refl _⟩
  rw [if_neg o9] at e
  split at e
  · cases e
  · obtain rfl := Option.some.inj e
    exact ⟨by rw [hp]; exact Nat.le_succ _, Nat.le_succ _, by rw [hp]; exact Nat.le_refl _⟩
structure SInv (ts : List ByteArray) (la gl : ByteArray) (code : List S47) (i : Nat) (s : PS) : Prop where
  pc0 : 0 ≤ s.pc
  pc1 : s.pc ≤ code.length
  wt : ∃ ty, WT (atv ts la) (atv ts gl) (size ts) (to_ ts) ty s
  objs : s.objs.length ≤ i
  out : s.out.length ≤ i
def PS0 : PS := ⟨fun _ => 0, [], [], 0, 0⟩
theorem SInv.start (ts : List ByteArray) (la gl : ByteArray) (code : List S47) : SInv ts la gl code 0 PS0 := ⟨Int.le_refl _, Int.natCast_nonneg _, ⟨[], WT.start _ _ _ _⟩, Nat.le_refl _, Nat.le_refl _⟩
section
variable {ts : List ByteArray} {la gl : ByteArray} {code : List S47} (h : SP ts la gl code) (hl : (ts.length : Int) ≤ 9223372036854775807) (hs : ∀ s ∈ ts, (s.size : Int) ≤ 9223372036854775807) (hla : Fit la) (hgl : Fit gl) (hw : WfC code)
include h hl hs hla hgl hw
theorem SInv.step {i : Nat} {s u : PS} (hI : SInv ts la gl code i s) (e : stepP (size ts) (atv ts la) code s = (u, false, 0)) : s.pc < code.length ∧ SInv ts la gl code (i + 1) u ∧ s.objs.length ≤ u.objs.length := by
  have hlt : s.pc < code.length := by
    rcases Int.lt_or_le s.pc code.length with h' | h'
    · exact h'
    · have : s.pc = code.length := by have := hI.pc1; omega
      unfold stepP at e
      rw [if_pos this] at e
      have := congrArg (fun p => p.2.1) e
      simp at this
  obtain ⟨ty, hty⟩ := hI.wt
  have hr := step_range h hl hs hla hgl hw hI.pc0 hlt e
  refine ⟨hlt, ⟨hr.1, hr.2, step_wt h hl hs hla hgl hw hI.pc0 hlt hty e, ?_, ?_⟩, ?_⟩
  all_goals
    have ho := hI.objs
    have ht := hI.out
    unfold stepP at e
    rw [if_neg (by omega)] at e
    split at e
    · obtain rfl := fst_eq e
      simp only
      omega
    · split at e
      · obtain rfl := fst_eq e
        simp only
        omega
      · split at e
        · rename_i v hv
          obtain rfl := fst_eq e
          have := stepN_len hv
          simp only at this
          omega
        · have := congrArg (fun p => p.2.2) e
          simp at this
end
structure LW (Ws wr : World) (s : PS) (cs : Array Value) : Prop where
  below : Below Ws.heap.size Ws wr
  row : wr.heap[Ws.heap.size]? = some (.cells cs 34 (0, 0))
  is : IsS wr (fun k => k ≠ Ws.heap.size) s cs
theorem LW.start (Ws : World) : LW Ws (Ws.alloc (.cells #[.int .i64 0, .int .i64 0, .int .i64 0, .int .i64 0, .int .i64 0, .int .i64 0, .int .i64 0, .int .i64 0, .int .i64 0, .int .i64 0, .int .i64 0, .int .i64 0, .int .i64 0, .int .i64 0, .int .i64 0, .int .i64 0, .int .i64 0, .int .i64 0, .int .i64 0, .int .i64 0, .slice none 0 0, .slice none 0 0, .int .i64 0, .int .i64 0] 34)) PS0 #[.int .i64 0, .int .i64 0, .int .i64 0, .int .i64 0, .int .i64 0, .int .i64 0, .int .i64 0, .int .i64 0, .int .i64 0, .int .i64 0, .int .i64 0, .int .i64 0, .int .i64 0, .int .i64 0, .int .i64 0, .int .i64 0, .int .i64 0, .int .i64 0, .int .i64 0, .int .i64 0, .slice none 0 0, .slice none 0 0, .int .i64 0, .int .i64 0] :=
  ⟨below_alloc (Below.refl _ _) _, heap_alloc_new _ _, none, [], 0, none, 0, rfl, Nat.le_refl _, Nat.le_refl _, fun W' _ => Objs.none W', fun W' _ => Kd.C_nil _ W'⟩
theorem LW.next {Ws wr w4 : World} {s u : PS} {cs cs' : Array Value} (h : LW Ws wr s cs) (hb : Below wr.heap.size wr w4) (hu : IsS w4 (fun k => k ≠ Ws.heap.size ∨ wr.heap.size ≤ k) u cs') (o : Obj) :
    LW Ws ((w4.alloc o).setRow Ws.heap.size cs') u cs' := by
  have hlt : Ws.heap.size < wr.heap.size := (Array.getElem?_eq_some_iff.1 h.row).1
  have h4 : w4.heap[Ws.heap.size]? = some (.cells cs 34 (0, 0)) := (hb.block _ hlt).trans h.row
  have hsz := hb.size
  refine ⟨below_row (below_alloc (below_step h.below hb) _) (Nat.le_refl _), ?_, ?_⟩
  · exact setRow_heap _ _ _ _ _ _ ((heap_old2 w4 o (by omega)).trans h4)
  · refine (hu.step fun k hk hl => ⟨?_, ?_⟩).mono fun k hk => (by rcases hk with hk | hk <;> omega)
    · exact (setRow_other _ _ k _ (by rcases hk with hk | hk <;> omega)).trans (heap_old2 w4 o hl)
    · simp
      omega
theorem LW.cell {Ws wr : World} {s : PS} {cs : Array Value} (h : LW Ws wr s cs) : ∃ oA hs oc tA tc, cs = stA s.n (.slice oA (hs : List Hd).length oc) (.slice tA s.out.length tc) s.pc s.steps ∧ hs.length = s.objs.length ∧
    (∀ j v, (stA s.n (.slice oA hs.length oc) (.slice tA s.out.length tc) s.pc s.steps)[j]? = some v → wr.cell? ⟨Ws.heap.size, j, none⟩ = some v) := by
  obtain ⟨oA, hs, oc, tA, tc, e, h1, h2, h3, h4⟩ := h.is
  refine ⟨oA, hs, oc, tA, tc, e, h3.now.len, fun j v hv => ?_⟩
  rw [cell_of_row _ _ j _ _ _ h.row, e]
  exact hv
theorem IsS.size {w : World} {P : Nat → Prop} {s : PS} {cs : Array Value} (h : IsS w P s cs) : cs.size = 24 := by
  obtain ⟨oA, hs, oc, tA, tc, rfl, _⟩ := h
  rfl
theorem IsS.one {w : World} {P : Nat → Prop} {s : PS} {cs : Array Value} (h : IsS w P s cs) : cs.toList.all (·.oneCell') = true := by
  obtain ⟨oA, hs, oc, tA, tc, rfl, _⟩ := h
  rfl
theorem stA_num (n : Nat → Int) (O T : Value) (pc st : Int) (k : Nat) (h : k < 20) : (stA n O T pc st)[k]? = some (.int .i64 (n k)) := (List.getElem?_toArray ..).trans (rowS n O T (.int .i64 pc) (.int .i64 st) k h)
end Go.Proofs.YtkplgfhkebkaaaaDoor.ST

namespace Go.Proofs.YtkplgfhkebkaaaaDoor.ST
open Go.RowKit Go.Proofs.YtkplgfhkebkaaaaDoorW.PrintWords Go.Proofs.YtkplgfhkebkaaaaDoor.Scan Go.Proofs.YtkplgfhkebkaaaaDoor.F Go.Proofs.YtkplgfhkebkaaaaDoor.FM Go.Proofs.YtkplgfhkebkaaaaDoor.H Go.Proofs.YtkplgfhkebkaaaaDoor.KP Go.Proofs.YtkplgfhkebkaaaaDoor.TT Go.Proofs.YtkplgfhkebkaaaaDoor.NX Go.Proofs.YtkplgfhkebkaaaaDoor.FP Go.Proofs.YtkplgfhkebkaaaaDoor.FL Go.Proofs.YtkplgfhkebkaaaaDoor.B8 Go.Proofs.YtkplgfhkebkaaaaDoor.ZB Go.Proofs.YtkplgfhkebkaaaaDoor.ZG Go.Proofs.YtkplgfhkebkaaaaDoor.GZ Go.Proofs.YtkplgfhkebkaaaaDoor.ZL
set_option linter.unusedVariables false
set_option linter.unusedSectionVars false
set_option linter.unusedSimpArgs false
theorem bit_of {z : S8} {m : Nat} (h : (iv z / 2 ^ m).tmod 2 = 1) : z.getLsbD m = true := by
  have h1 := shr_tmod z (b := (m : Int)) (by omega)
  rw [shr_nat z (by omega), Int.toNat_natCast] at h1
  have e : iv z / 2 ^ m = ((z.toNat / 2 ^ m : Nat) : Int) := by
    unfold iv
    simp
  rw [e, h1] at h
  split at h
  · assumption
  · cases h
section
variable (w : World) (A0 : Option Addr) (c0 : Nat) (ts : List ByteArray) (la gl : ByteArray) (A3 : Option Addr) (c3 : Nat) (code : List S47)
  (hT : Kd.C Kd.string w A0 ts.length ts) (hc0 : ts.length ≤ c0) (hC : Kd.C k47 w A3 code.length code) (hc3 : code.length ≤ c3) (htab : TB w)
  (hl : (ts.length : Int) ≤ 9223372036854775807) (hsz : ∀ s ∈ ts, (s.size : Int) ≤ 9223372036854775807) (hla : Fit la) (hgl : Fit gl) (hw : WfC code) (many : Nat) (hm : many ≤ 255)
include hT hc0 hC hc3 htab hl hsz hla hgl hw hm
set_option maxHeartbeats 2000000 in
set_option maxRecDepth 100000 in
theorem FreshTrue_no (ks ka : Nat) (hS : lockstitchlaw07_Sound.f ks ts la gl code = some false) (hA : lockstitchlaw09_alive.f ka = some true) :
    Calls Tryd.prog 6 #[.agg #[.slice A0 ts.length c0, .string la, .string gl, .slice A3 code.length c3], .int .u8 many] w fun e w' => e = .returned (.bool true) ∧ Below w.heap.size w w' := by
  have HT := Aside0.mk hT
  have HC := Aside0.mk hC
  have HTB := Aside0.mk htab
  have HS := Aside0.mk hS
  have HA := Aside0.mk hA
  clear hT hC htab hS hA
  go_enter Tryd.func6, Tryd.ntmps6
  go_wp2_with (first
    | (go_at_call 8; (with_reducible refine (lockstitchlaw07_Sound.calls ks A0 c0 ts la gl A3 c3 code false _ (Kd.C_alloc HT.out _) hc0 (Kd.C_alloc HC.out _) hc3 HS.out (TB_below HTB.out (below_alloc (Below.refl _ _) _))).mono ?_); rintro e w1 ⟨rfl, hb1⟩; have HB1 := Aside0.mk (below_step (below_alloc (Below.refl _ _) _) hb1); clear hb1)
    | (go_at_call 19; (with_reducible refine (lockstitchlaw09_alive.calls ka true _ HA.out).mono ?_); rintro e w2 ⟨rfl, hb2⟩; have HB2 := Aside0.mk hb2; clear hb2))
  go_ret
  exact ⟨rfl, below_step HB1.out HB2.out⟩
set_option maxHeartbeats 2000000 in
set_option maxRecDepth 100000 in
theorem FreshTrue_yes (ks ka kc : Nat) (ck : Int) (hS : lockstitchlaw07_Sound.f ks ts la gl code = some true) (hA : lockstitchlaw09_alive.f ka = some true) (hsp : SP ts la gl code) (hK : lockstitchref05_Check.f kc ts la gl code = some (ck, 0)) :
    Calls Tryd.prog 6 #[.agg #[.slice A0 ts.length c0, .string la, .string gl, .slice A3 code.length c3], .int .u8 many] w fun e w' => e = .returned (.bool true) ∧ Below w.heap.size w w' := by
  have HT := Aside0.mk hT
  have HC := Aside0.mk hC
  have HTB := Aside0.mk htab
  have HS := Aside0.mk hS
  have HA := Aside0.mk hA
  have HK := Aside0.mk hK
  have HSP := Aside0.mk hsp
  have HIN : Aside0 (fresh_In.f ts la gl code = some (frI code)) := ⟨if_pos ⟨SP.inR hsp, by have := hsp.small; omega, hw⟩⟩
  have hfl := frI_len code
  have hcs := hsp.small
  have hlo := hsp.locals
  clear hT hC htab hS hA hK hsp
  go_enter Tryd.func6, Tryd.ntmps6
  go_wp2_with (first
    | (go_at_call 8; (with_reducible refine (lockstitchlaw07_Sound.calls ks A0 c0 ts la gl A3 c3 code true _ (Kd.C_alloc HT.out _) hc0 (Kd.C_alloc HC.out _) hc3 HS.out (TB_below HTB.out (below_alloc (Below.refl _ _) _))).mono ?_); rintro e w1 ⟨rfl, hb1⟩; have HB1 := Aside0.mk (below_step (below_alloc (Below.refl _ _) _) hb1); have HX1 := Aside0.mk ((hb1.block w.heap.size (by simp)).trans (heap_alloc_new w _)); clear hb1)
    | (go_at_call 19; (with_reducible refine (lockstitchlaw09_alive.calls ka true _ HA.out).mono ?_); rintro e w2 ⟨rfl, hb2⟩; have HB2 := Aside0.mk (below_step HB1.out hb2); have hx2 := (hb2.block w.heap.size (blk_lt HX1.out)).trans HX1.out; have kp2 := fun j => cell_of_row w2 (w.heap.size) j _ _ _ hx2; have HX2 := Aside0.mk hx2; clear hb2 hx2)
    | (go_at_call 20; (with_reducible refine (fresh_In.calls A0 c0 ts la gl A3 c3 code _ w2 (Kd.C_below HT.out HB2.out) hc0 (Kd.C_below HC.out HB2.out) hc3 HIN.out).mono ?_); rintro e w3 ⟨v, rfl, hv, hb3⟩; obtain ⟨Al, cl, ev, hcl, hrl⟩ := Kd.R_reads hv; subst ev; rw [hfl] at hrl hcl ⊢; have HRL := Aside0.mk hrl; have HB3 := Aside0.mk (below_step HB2.out hb3); have hx3 := (hb3.block w.heap.size (blk_lt HX2.out)).trans HX2.out; have kp3 := fun j => cell_of_row w3 (w.heap.size) j _ _ _ hx3; have HX3 := Aside0.mk hx3; clear hb3 hx3 hv hrl))
  have hB := HB3.out
  have hX := HX3.out
  have hRL := HRL.out
  have hLW := Aside0.mk (LW.start w3)
  have hN0 := Aside0.mk (show New code 0 PS0 from fun a _ _ => .inl rfl)
  clear kp3 HB1 HB2 HX1 HX2 kp2
  go_loopw [7, 31] (fun old i wr => ∃ (k : Nat) (o : Nat) (s : PS) (cs : Array Value), i = .int .i64 k ∧ old = .int .i64 o ∧ k ≤ many ∧ LW w3 wr s cs ∧ SInv ts la gl code k s ∧ New code o s ∧ o ≤ s.objs.length) (fun _ i _ => many - (intOf i).toNat)
  case atStart => exact ⟨0, 0, PS0, _, rfl, rfl, Nat.zero_le _, hLW.out, SInv.start .., hN0.out, Nat.le_refl _⟩
  case round =>
    obtain ⟨k, o, s, cs, rfl, rfl, hk, hL, hI, hN, ho⟩ := hrel
    have hlt3 : w.heap.size < w3.heap.size := blk_lt hX
    obtain ⟨wr', hwr⟩ : ∃ x : World, x = wr := ⟨_, rfl⟩
    subst hwr
    have HL := Aside0.mk hL
    have HI := Aside0.mk hI
    have HN := Aside0.mk hN
    have hxr := (hL.below.block w.heap.size hlt3).trans hX
    have kp := fun j => cell_of_row wr' w.heap.size j _ _ _ hxr
    clear hxr
    by_cases hlt : k < many
    · obtain ⟨oA, hs, oc, tA, tc, ecs, ehs, hcell⟩ := hL.cell
      have hpc := hI.pc1
      obtain ⟨q, hq⟩ := Int.eq_ofNat_of_zero_le hI.pc0
      have kpc : wr'.cell? ⟨w3.heap.size, 22, none⟩ = some (.int .i64 s.pc) := hcell 22 _ rfl
      have kob : wr'.cell? ⟨w3.heap.size, 20, none⟩ = some (.slice oA hs.length oc) := hcell 20 _ rfl
      rw [hq] at kpc hpc
      have hql : q < code.length + 1 := by omega
      have hlc : ∃ ad, Al = some ad ∧ wr'.cell? (ad.add q) = some (.int .u8 (iv (g (frB code) q))) := by
        obtain ⟨_, _, h3⟩ := Kd.reads_of_C (d := (0 : Int)) (Kd.C_below hRL hL.below)
        obtain ⟨ad, e, h4⟩ := h3 (by omega)
        refine ⟨ad, e, (h4 q hql).trans ?_⟩
        have := rd_fr code q
        unfold rd at this
        simpa using this
      obtain ⟨ad, rfl, kl⟩ := hlc
      obtain ⟨z, ez⟩ : ∃ z, z = g (frB code) q := ⟨_, rfl⟩
      rw [← ez] at kl
      have q0 : (0 : Int) ≤ q := by omega
      have q1 : (q : Int) < (code.length : Int) + 1 := by omega
      have HC2 := Aside0.mk hcell
      have HQ := Aside0.mk hq
      have EZ := Aside0.mk ez
      have EH := Aside0.mk ehs
      have hcz := hL.is.size
      have SAFE : Aside0 (lockstitchref07_Safe.f ts la gl code (q : Int) = some (sf code q)) := ⟨by obtain ⟨_, e⟩ := ev_at (ref_safe_ev ts la gl code (q : Int)); exact e⟩
      have hob := hI.objs
      have hou := hI.out
      obtain ⟨ty, hty⟩ := hI.wt
      obtain ⟨u, d, er, hst⟩ : ∃ u d er, stepP (size ts) (atv ts la) code s = (u, d, er) := ⟨_, _, _, rfl⟩
      have STEP : Aside0 (∀ W, Below wr'.heap.size wr' W → Calls Tryd.prog 12 #[.agg #[.slice A0 ts.length c0, .string la, .string gl, .slice A3 code.length c3], .agg cs] W fun e w' =>
          ∃ cs', e = .returned (.tuple #[.agg cs', .bool d, .int .i64 er]) ∧ IsS w' (fun k => k ≠ w3.heap.size ∨ W.heap.size ≤ k) u cs' ∧ Below W.heap.size W w') := ⟨fun W hW => by
        have hb := below_step (below_step HB3.out hL.below) hW
        have := Step_ps (P := fun k => k ≠ w3.heap.size) (Kd.C_below HT.out hb) hc0 (Kd.C_below HC.out hb) hc3 HK.out (TB_below HTB.out hb) HSP.out hl hsz hla hgl hw (hL.is.below hW) hty hI.pc0 hI.pc1 (by omega) (by omega)
        rw [hst] at this
        exact this⟩
      have HST := Aside0.mk hst
      clear hL hI hN hcell hq ecs ez ehs hty hst
      have hwn : ∀ W : World, Below wr'.heap.size wr' W → W.heap[w3.heap.size]? = some (.cells cs 34 (0, 0)) := fun W hW => (hW.block _ (blk_lt HL.out.row)).trans HL.out.row
      have HWN := Aside0.mk hwn
      clear hwn
      obtain ⟨bs, hbs⟩ : ∃ bs, sf code q = bs := ⟨_, rfl⟩
      rw [hbs] at SAFE
      have HBS := Aside0.mk hbs
      clear hbs
      go_wp2
      go_loop [36] (fun a => ∃ m : Nat, m ≤ la.size ∧ a = .int .i64 m) (fun a => la.size - (intOf a).toNat)
      case atStart => exact ⟨0, Nat.zero_le _, rfl⟩
      case round =>
        obtain ⟨m, hm2, rfl⟩ := hrel
        by_cases hml : m < la.size
        · have kP : wr'.cell? ⟨w3.heap.size, 8 + m, none⟩ = some (.int .i64 (s.n (8 + m))) := HC2.out (8 + m) _ (stA_num _ _ _ _ _ _ (by omega))
          have m0 : (0 : Int) ≤ m := by omega
          have m1 : (m : Int) < 8 := by omega
          go_wp2
          all_goals first
            | (exfalso
               have h1 : (iv z / 2 ^ m).tmod 2 = 1 := by assumption
               have h2 : ¬ s.n (8 + m) = 0 := by assumption
               have h3 : (s.n (8 + m) != 0) = true ∧ s.n (8 + m) ≤ (o : Int) := by assumption
               have h4 := HN.out m (by omega) (by rw [HQ.out, Int.toNat_natCast, ← EZ.out]; exact bit_of h1)
               omega)
            | (refine ⟨⟨m + 1, by omega, by go_num⟩, ?_⟩
               simp [intOf]
               omega)
        · cases bs with
          | true =>
            cases d with
            | true =>
              go_wp2_with (first
            | (go_at_call 21; (with_reducible refine (lockstitchref07_Safe.calls A0 c0 ts la gl A3 c3 code q true wr' (Kd.C_below HT.out (below_step HB3.out HL.out.below)) hc0 (Kd.C_below HC.out (below_step HB3.out HL.out.below)) hc3 SAFE.out).mono ?_); rintro e w5 ⟨rfl, hb5⟩; have b5 := HWN.out w5 hb5; have kp5 := fun j => cell_of_row w5 w.heap.size j _ _ _ (((below_step HL.out.below hb5).block w.heap.size hlt3).trans hX); have k20 := (hb5.cell (p := ⟨w3.heap.size, 20, none⟩) (blk_lt HL.out.row)).trans kob; have HB5 := Aside0.mk hb5; clear hb5)
            | (go_at_call 12; (with_reducible refine (STEP.out w5 HB5.out).mono ?_); rintro e w6 ⟨cs', rfl, hS6, hb6⟩; have hz6 := hS6.size; have ho6 := hS6.one; have b6 := HWN.out w6 (below_step HB5.out hb6); have hz36 := blk_lt b6; have HS6 := Aside0.mk hS6; have HB6 := Aside0.mk hb6; clear hS6 hb6)
            | (apply ldS; (with_reducible rfl); rfl; rfl; exact rowT; (first | rfl | assumption))
            | (apply srS; (with_reducible rfl); rfl; rfl; rfl; exact rowT; (first | rfl | assumption); (first | rfl | assumption); (first | rfl | assumption); exact setT))
              go_ret
              exact ⟨rfl, below_alloc (below_step (below_step HB3.out HL.out.below) (below_step HB5.out HB6.out)) _⟩
            | false =>
              by_cases her : er = 0
              · subst her
                go_wp2_with (first
              | (go_at_call 21; (with_reducible refine (lockstitchref07_Safe.calls A0 c0 ts la gl A3 c3 code q true wr' (Kd.C_below HT.out (below_step HB3.out HL.out.below)) hc0 (Kd.C_below HC.out (below_step HB3.out HL.out.below)) hc3 SAFE.out).mono ?_); rintro e w5 ⟨rfl, hb5⟩; have b5 := HWN.out w5 hb5; have kp5 := fun j => cell_of_row w5 w.heap.size j _ _ _ (((below_step HL.out.below hb5).block w.heap.size hlt3).trans hX); have k20 := (hb5.cell (p := ⟨w3.heap.size, 20, none⟩) (blk_lt HL.out.row)).trans kob; have HB5 := Aside0.mk hb5; clear hb5)
              | (go_at_call 12; (with_reducible refine (STEP.out w5 HB5.out).mono ?_); rintro e w6 ⟨cs', rfl, hS6, hb6⟩; have hz6 := hS6.size; have ho6 := hS6.one; have b6 := HWN.out w6 (below_step HB5.out hb6); have hz36 := blk_lt b6; have HS6 := Aside0.mk hS6; have HB6 := Aside0.mk hb6; clear hS6 hb6)
              | (apply ldS; (with_reducible rfl); rfl; rfl; exact rowT; (first | rfl | assumption))
              | (apply srS; (with_reducible rfl); rfl; rfl; rfl; exact rowT; (first | rfl | assumption); (first | rfl | assumption); (first | rfl | assumption); exact setT))
                go_roundw
                case rel =>
                  have hs2 := SInv.step HSP.out hl hsz hla hgl hw HI.out HST.out
                  have hn2 := step_new HSP.out hl hsz hla hgl hw HI.out.pc0 hs2.1 (by omega) HN.out HST.out
                  rw [HQ.out, HBS.out] at hn2
                  refine ⟨k + 1, s.objs.length, u, cs', by go_num, by rw [EH.out], by omega, HL.out.next (below_step HB5.out HB6.out) (HS6.out.mono fun k hk => hk.imp id fun h => Nat.le_trans HB5.out.size h) _, hs2.2.1, hn2, by have := hs2.2.2; omega⟩
                case measure =>
                  simp [intOf]
                  omega
              · have hne : (er != 0) = true := by simpa using her
                go_wp2_with (first
              | (go_at_call 21; (with_reducible refine (lockstitchref07_Safe.calls A0 c0 ts la gl A3 c3 code q true wr' (Kd.C_below HT.out (below_step HB3.out HL.out.below)) hc0 (Kd.C_below HC.out (below_step HB3.out HL.out.below)) hc3 SAFE.out).mono ?_); rintro e w5 ⟨rfl, hb5⟩; have b5 := HWN.out w5 hb5; have kp5 := fun j => cell_of_row w5 w.heap.size j _ _ _ (((below_step HL.out.below hb5).block w.heap.size hlt3).trans hX); have k20 := (hb5.cell (p := ⟨w3.heap.size, 20, none⟩) (blk_lt HL.out.row)).trans kob; have HB5 := Aside0.mk hb5; clear hb5)
              | (go_at_call 12; (with_reducible refine (STEP.out w5 HB5.out).mono ?_); rintro e w6 ⟨cs', rfl, hS6, hb6⟩; have hz6 := hS6.size; have ho6 := hS6.one; have b6 := HWN.out w6 (below_step HB5.out hb6); have hz36 := blk_lt b6; have HS6 := Aside0.mk hS6; have HB6 := Aside0.mk hb6; clear hS6 hb6)
              | (apply ldS; (with_reducible rfl); rfl; rfl; exact rowT; (first | rfl | assumption))
              | (apply srS; (with_reducible rfl); rfl; rfl; rfl; exact rowT; (first | rfl | assumption); (first | rfl | assumption); (first | rfl | assumption); exact setT))
                go_ret
                exact ⟨rfl, below_alloc (below_step (below_step HB3.out HL.out.below) (below_step HB5.out HB6.out)) _⟩
          | false =>
            cases d with
            | true =>
              go_wp2_with (first
            | (go_at_call 21; (with_reducible refine (lockstitchref07_Safe.calls A0 c0 ts la gl A3 c3 code q false wr' (Kd.C_below HT.out (below_step HB3.out HL.out.below)) hc0 (Kd.C_below HC.out (below_step HB3.out HL.out.below)) hc3 SAFE.out).mono ?_); rintro e w5 ⟨rfl, hb5⟩; have b5 := HWN.out w5 hb5; have kp5 := fun j => cell_of_row w5 w.heap.size j _ _ _ (((below_step HL.out.below hb5).block w.heap.size hlt3).trans hX); have k20 := (hb5.cell (p := ⟨w3.heap.size, 20, none⟩) (blk_lt HL.out.row)).trans kob; have HB5 := Aside0.mk hb5; clear hb5)
            | (go_at_call 12; (with_reducible refine (STEP.out w5 HB5.out).mono ?_); rintro e w6 ⟨cs', rfl, hS6, hb6⟩; have hz6 := hS6.size; have ho6 := hS6.one; have b6 := HWN.out w6 (below_step HB5.out hb6); have hz36 := blk_lt b6; have HS6 := Aside0.mk hS6; have HB6 := Aside0.mk hb6; clear hS6 hb6)
            | (apply ldS; (with_reducible rfl); rfl; rfl; exact rowT; (first | rfl | assumption))
            | (apply srS; (with_reducible rfl); rfl; rfl; rfl; exact rowT; (first | rfl | assumption); (first | rfl | assumption); (first | rfl | assumption); exact setT))
              go_ret
              exact ⟨rfl, below_alloc (below_step (below_step HB3.out HL.out.below) (below_step HB5.out HB6.out)) _⟩
            | false =>
              by_cases her : er = 0
              · subst her
                go_wp2_with (first
              | (go_at_call 21; (with_reducible refine (lockstitchref07_Safe.calls A0 c0 ts la gl A3 c3 code q false wr' (Kd.C_below HT.out (below_step HB3.out HL.out.below)) hc0 (Kd.C_below HC.out (below_step HB3.out HL.out.below)) hc3 SAFE.out).mono ?_); rintro e w5 ⟨rfl, hb5⟩; have b5 := HWN.out w5 hb5; have kp5 := fun j => cell_of_row w5 w.heap.size j _ _ _ (((below_step HL.out.below hb5).block w.heap.size hlt3).trans hX); have k20 := (hb5.cell (p := ⟨w3.heap.size, 20, none⟩) (blk_lt HL.out.row)).trans kob; have HB5 := Aside0.mk hb5; clear hb5)
              | (go_at_call 12; (with_reducible refine (STEP.out w5 HB5.out).mono ?_); rintro e w6 ⟨cs', rfl, hS6, hb6⟩; have hz6 := hS6.size; have ho6 := hS6.one; have b6 := HWN.out w6 (below_step HB5.out hb6); have hz36 := blk_lt b6; have HS6 := Aside0.mk hS6; have HB6 := Aside0.mk hb6; clear hS6 hb6)
              | (apply ldS; (with_reducible rfl); rfl; rfl; exact rowT; (first | rfl | assumption))
              | (apply srS; (with_reducible rfl); rfl; rfl; rfl; exact rowT; (first | rfl | assumption); (first | rfl | assumption); (first | rfl | assumption); exact setT))
                go_roundw
                case rel =>
                  have hs2 := SInv.step HSP.out hl hsz hla hgl hw HI.out HST.out
                  have hn2 := step_new HSP.out hl hsz hla hgl hw HI.out.pc0 hs2.1 (by omega) HN.out HST.out
                  rw [HQ.out, HBS.out] at hn2
                  refine ⟨k + 1, o, u, cs', by go_num, rfl, by omega, HL.out.next (below_step HB5.out HB6.out) (HS6.out.mono fun k hk => hk.imp id fun h => Nat.le_trans HB5.out.size h) _, hs2.2.1, hn2, by have := hs2.2.2; omega⟩
                case measure =>
                  simp [intOf]
                  omega
              · have hne : (er != 0) = true := by simpa using her
                go_wp2_with (first
              | (go_at_call 21; (with_reducible refine (lockstitchref07_Safe.calls A0 c0 ts la gl A3 c3 code q false wr' (Kd.C_below HT.out (below_step HB3.out HL.out.below)) hc0 (Kd.C_below HC.out (below_step HB3.out HL.out.below)) hc3 SAFE.out).mono ?_); rintro e w5 ⟨rfl, hb5⟩; have b5 := HWN.out w5 hb5; have kp5 := fun j => cell_of_row w5 w.heap.size j _ _ _ (((below_step HL.out.below hb5).block w.heap.size hlt3).trans hX); have k20 := (hb5.cell (p := ⟨w3.heap.size, 20, none⟩) (blk_lt HL.out.row)).trans kob; have HB5 := Aside0.mk hb5; clear hb5)
              | (go_at_call 12; (with_reducible refine (STEP.out w5 HB5.out).mono ?_); rintro e w6 ⟨cs', rfl, hS6, hb6⟩; have hz6 := hS6.size; have ho6 := hS6.one; have b6 := HWN.out w6 (below_step HB5.out hb6); have hz36 := blk_lt b6; have HS6 := Aside0.mk hS6; have HB6 := Aside0.mk hb6; clear hS6 hb6)
              | (apply ldS; (with_reducible rfl); rfl; rfl; exact rowT; (first | rfl | assumption))
              | (apply srS; (with_reducible rfl); rfl; rfl; rfl; exact rowT; (first | rfl | assumption); (first | rfl | assumption); (first | rfl | assumption); exact setT))
                go_ret
                exact ⟨rfl, below_alloc (below_step (below_step HB3.out HL.out.below) (below_step HB5.out HB6.out)) _⟩
    · go_wp2
      go_ret
      exact ⟨rfl, below_step HB3.out HL.out.below⟩
end
theorem FreshTrue_walk (w : World) (A0 : Option Addr) (c0 : Nat) (ts : List ByteArray) (la gl : ByteArray) (A3 : Option Addr) (c3 : Nat) (code : List S47)
    (hT : Kd.C Kd.string w A0 ts.length ts) (hc0 : ts.length ≤ c0) (hC : Kd.C k47 w A3 code.length code) (hc3 : code.length ≤ c3) (htab : TB w)
    (hl : (ts.length : Int) ≤ 9223372036854775807) (hsz : ∀ s ∈ ts, (s.size : Int) ≤ 9223372036854775807) (hla : Fit la) (hgl : Fit gl) (hw : WfC code) (many : Int) (h0 : 0 ≤ many) (h1 : many ≤ 255) :
    Calls Tryd.prog 6 #[.agg #[.slice A0 ts.length c0, .string la, .string gl, .slice A3 code.length c3], .int .u8 many] w fun e w' => e = .returned (.bool true) ∧ Below w.heap.size w w' := by
  obtain ⟨m, rfl⟩ := Int.eq_ofNat_of_zero_le h0
  have hc : (code.length : Int) ≤ 9223372036854775807 := by have := Kd.C_max hC; omega
  obtain ⟨b, hb, hsp⟩ := sound_chk hl hsz hla hgl hc hw
  obtain ⟨ks, hks⟩ := ev_at hb
  obtain ⟨ka, hka⟩ := ev_at ZL.alive_ev
  cases b with
  | false => exact FreshTrue_no w A0 c0 ts la gl A3 c3 code hT hc0 hC hc3 htab hl hsz hla hgl hw m (by omega) ks ka hks hka
  | true =>
    obtain ⟨hp, ck, hck⟩ := hsp rfl
    obtain ⟨kc, hkc⟩ := ev_at hck
    exact FreshTrue_yes w A0 c0 ts la gl A3 c3 code hT hc0 hC hc3 htab hl hsz hla hgl hw m (by omega) ks ka kc ck hks hka hp hkc
end Go.Proofs.YtkplgfhkebkaaaaDoor.ST

namespace Go.Proofs.YtkplgfhkebkaaaaDoor.Rw
open Go.RowKit Go.Proofs.YtkplgfhkebkaaaaDoorW.PrintWords
def IsStrs (w : World) (a : Option Addr) (len cap : Nat) (zs : List ByteArray) : Prop :=
  (a = none ∧ len = 0 ∧ cap = 0 ∧ zs = []) ∨
  ∃ x, a = some x ∧ len ≤ cap ∧ cap ≤ maxLen ∧ zs.length = cap ∧ (∀ i, i < zs.length → w.cell? (x.add i) = some (.string (zs.getD i ByteArray.empty))) ∧ ∀ s ∈ zs, s.size ≤ maxLen
theorem strs_C {w : World} {a : Option Addr} {len cap : Nat} {zs : List ByteArray} (h : IsStrs w a len cap zs) :
    ∃ l0 : List ByteArray, len = l0.length ∧ l0.length ≤ cap ∧ Kd.C Kd.string w a l0.length l0 ∧ ∀ s ∈ l0, (s.size : Int) ≤ 9223372036854775807 := by
  rcases h with ⟨rfl, rfl, rfl, rfl⟩ | ⟨x, rfl, hl, hm, hz, hc, hs⟩
  · exact ⟨[], rfl, Nat.le_refl _, Kd.C_nil _ _, fun s hs => by cases hs⟩
  · have hlen : (zs.take len).length = len := by rw [List.length_take]; omega
    refine ⟨zs.take len, hlen.symm, by omega, Kd.C_of_reads (d := ByteArray.empty) ⟨rfl, ?_, fun _ => ⟨x, rfl, fun j hj => ?_⟩⟩, fun s h => ?_⟩
    · rw [hlen]; unfold maxLen at hm; omega
    · rw [hlen] at hj
      rw [hc j (by omega)]
      congr 2
      rw [List.getD_eq_getElem?_getD, List.getD_eq_getElem?_getD, List.getElem?_take, if_pos hj]
    · have := hs s (List.mem_of_mem_take h)
      unfold maxLen at this
      omega
end Go.Proofs.YtkplgfhkebkaaaaDoor.Rw

namespace Go.Proofs.YtkplgfhkebkaaaaDoor.Rw
open Go.ChangeShapes Go.ChangeAt Go.RowKit Go.WideShapes Go.Proofs.YtkplgfhkebkaaaaDoorW.PrintWords Go.Proofs.YtkplgfhkebkaaaaDoor.F Go.Proofs.YtkplgfhkebkaaaaDoor.TT
theorem wf_u8 {n : Int} (h : (Lit.int .u8 n).wf = true) : 0 ≤ n ∧ n ≤ 255 := by
  simp [Lit.wf, IntKind.min, IntKind.max, IntKind.signed, IntKind.bits] at h
  omega
theorem wf_i64 {n : Int} (h : (Lit.int .i64 n).wf = true) : -9223372036854775808 ≤ n ∧ n ≤ 9223372036854775807 := by
  simp [Lit.wf, IntKind.min, IntKind.max, IntKind.signed, IntKind.bits] at h
  omega
theorem add_add (a : Addr) (i j : Nat) : (a.add i).add j = a.add (i + j) := by
  unfold Addr.add
  by_cases h1 : i = 0 <;> by_cases h2 : j = 0 <;> simp [h1, h2, Nat.add_assoc]
section
variable {H : Type} {enc : TypeId × Value → H} {W : World} {held : Bool} {sp : Nat → Bool}
set_option maxRecDepth 100000 in
theorem ins_at {fuel : Nat} {cs : List Value} {x : DataW H × List MemPlace} (h : DataW.trod enc Tryd.prog W 0 sp held fuel 47 cs = some x) :
    ∃ s : S47, cs = [.int .u8 s.f0, .int .u8 s.f1, .int .u8 s.f2, .int .u8 s.f3, .int .i64 s.f4] ∧ WfI s.f0 s.f1 s.f2 s.f3 s.f4 := by
  obtain ⟨xs, n, _, _, hl, hxl, hf⟩ := DataW.trod_struct Tryd.underlying47 h
  have hc5 : Tryd.prog.cellsOf 47 = 5 := by kernel_rfl
  have c1 : Tryd.prog.cellsOf 5 = 1 := by kernel_rfl
  have c2 : Tryd.prog.cellsOf 2 = 1 := by kernel_rfl
  rw [hc5] at hl
  match cs, hl with
  | [a, b, c, d, e], _ =>
    match xs, hxl with
    | [x0, x1, x2, x3, x4], _ =>
      obtain ⟨n0, e0, _, w0⟩ := DataW.trod_int Tryd.underlying5 (hf 0 _ rfl)
      obtain ⟨n1, e1, _, w1⟩ := DataW.trod_int Tryd.underlying5 (hf 1 _ rfl)
      obtain ⟨n2, e2, _, w2⟩ := DataW.trod_int Tryd.underlying5 (hf 2 _ rfl)
      obtain ⟨n3, e3, _, w3⟩ := DataW.trod_int Tryd.underlying5 (hf 3 _ rfl)
      obtain ⟨n4, e4, _, w4⟩ := DataW.trod_int Tryd.underlying2 (hf 4 _ rfl)
      have e0' : a = .int .u8 n0 := by simpa [c1, c2] using e0
      have e1' : b = .int .u8 n1 := by simpa [c1, c2] using e1
      have e2' : c = .int .u8 n2 := by simpa [c1, c2] using e2
      have e3' : d = .int .u8 n3 := by simpa [c1, c2] using e3
      have e4' : e = .int .i64 n4 := by simpa [c1, c2] using e4
      exact ⟨⟨n0, n1, n2, n3, n4⟩, by rw [e0', e1', e2', e3', e4'], wf_u8 w0, wf_u8 w1, wf_u8 w2, wf_u8 w3, wf_i64 w4⟩
set_option maxRecDepth 100000 in
theorem ins_row {fuel : Nat} {v : Value} {x : DataW H × List MemPlace} (h : DataW.trod enc Tryd.prog W 0 sp held fuel 23 [v] = some x) :
    ∃ (A : Option Addr) (c : Nat) (code : List S47), v = .slice A code.length c ∧ code.length ≤ c ∧ Kd.C k47 W A code.length code ∧ WfC code := by
  have hc5 : Tryd.prog.cellsOf 47 = 5 := by kernel_rfl
  rcases DataW.trod_slice Tryd.underlying23 h with ⟨h0, _⟩ | ⟨a, len, cap, elems, rest, n, _, h0, _, hb, hl, hm, hlen, hel, _, _⟩
  · injection h0 with h0
    exact ⟨none, 0, [], h0, Nat.le_refl _, Kd.C_nil _ _, fun x hx => by cases hx⟩
  · injection h0 with h0
    have each : ∀ i, ∃ s : S47, i < len → (∀ j u, ([.int .u8 s.f0, .int .u8 s.f1, .int .u8 s.f2, .int .u8 s.f3, .int .i64 s.f4] : List Value)[j]? = some u → W.cell? (a.add (i * 5 + j)) = some u) ∧ WfI s.f0 s.f1 s.f2 s.f3 s.f4 := by
      intro i
      by_cases hi : i < len
      · have h1 := hel i hi
        rw [List.getElem?_eq_getElem (by omega), hc5, Option.bind_eq_some_iff] at h1
        obtain ⟨cs, h2, h3⟩ := h1
        obtain ⟨s, rfl, hw⟩ := ins_at h3
        obtain ⟨_, _, h4⟩ := World.cells?_some h2
        refine ⟨s, fun _ => ⟨fun j u hu => ?_, hw⟩⟩
        have hj : j < 5 := by
          have := (List.getElem?_eq_some_iff.1 hu).1
          simpa using this
        have h5 := h4 j hj
        rw [hu] at h5
        rw [← h5]
        rw [add_add]
      · exact ⟨z47, fun h => absurd h hi⟩
    obtain ⟨f, hf⟩ := Classical.axiomOfChoice each
    have hlm : ((List.range len).map f).length = len := by simp
    refine ⟨some a, cap, (List.range len).map f, by rw [hlm]; exact h0, by rw [hlm]; exact hl, ?_, fun s hs => ?_⟩
    · rw [hlm]
      refine ⟨hlm, by unfold maxLen at hm; omega, fun _ => ⟨a, rfl, fun j p hp => ?_⟩⟩
      rw [List.getElem?_map] at hp
      by_cases hj : j < len
      · rw [List.getElem?_range hj] at hp
        obtain rfl := Option.some.inj hp
        exact ⟨_, rfl, k47_mk W (f j), fun i u hu => ((hf j) hj).1 i u hu⟩
      · rw [List.getElem?_eq_none (by simpa using hj)] at hp
        cases hp
    · obtain ⟨j, hj, rfl⟩ := List.mem_map.1 hs
      exact ((hf j) (List.mem_range.1 hj)).2
set_option maxRecDepth 100000 in
theorem open_prog {r : Reach} {b0 : Nat} {v : Value} {d : DataW H} {ps : List MemPlace} (hval : Value.okWide Tryd.prog W r b0 25 v) (hd : DataW.Trod enc Tryd.prog W 0 (fun _ => true) held 25 v d ps) :
    ∃ (A0 : Option Addr) (c0 : Nat) (ts : List ByteArray) (la gl : ByteArray) (A3 : Option Addr) (c3 : Nat) (code : List S47),
      v = .agg #[.slice A0 ts.length c0, .string la, .string gl, .slice A3 code.length c3] ∧ ts.length ≤ c0 ∧ Kd.C Kd.string W A0 ts.length ts ∧ (∀ s ∈ ts, (s.size : Int) ≤ 9223372036854775807) ∧
      Fit la ∧ Fit gl ∧ code.length ≤ c3 ∧ Kd.C k47 W A3 code.length code ∧ WfC code := by
  obtain ⟨cs, rfl, hn⟩ := okWide_struct Tryd.underlying25 hval
  have hc4 : Tryd.prog.cellsOf 25 = 4 := by kernel_rfl
  have c1 : Tryd.prog.cellsOf 9 = 1 := by kernel_rfl
  have c2 : Tryd.prog.cellsOf 22 = 1 := by kernel_rfl
  have c3' : Tryd.prog.cellsOf 23 = 1 := by kernel_rfl
  rw [hc4] at hn
  obtain ⟨fuel, hf⟩ := hd
  obtain ⟨xs, n, _, _, _, hxl, hfl⟩ := DataW.trod_struct Tryd.underlying25 hf
  obtain ⟨l⟩ := cs
  match l, hn with
  | [a, b, c, e], _ =>
    match xs, hxl with
    | [x0, x1, x2, x3], _ =>
      have f0 : DataW.trod enc Tryd.prog W 0 (fun _ => true) held n 22 [a] = some x0 := by simpa [c2, Value.cells] using hfl 0 _ rfl
      have f1 : DataW.trod enc Tryd.prog W 0 (fun _ => true) held n 9 [b] = some x1 := by simpa [c1, Value.cells] using hfl 1 _ rfl
      have f2 : DataW.trod enc Tryd.prog W 0 (fun _ => true) held n 9 [c] = some x2 := by simpa [c1, Value.cells] using hfl 2 _ rfl
      have f3 : DataW.trod enc Tryd.prog W 0 (fun _ => true) held n 23 [e] = some x3 := by simpa [c3', Value.cells] using hfl 3 _ rfl
      obtain ⟨s1, e1, _, w1⟩ := DataW.trod_string Tryd.underlying9 f1
      obtain ⟨s2, e2, _, w2⟩ := DataW.trod_string Tryd.underlying9 f2
      obtain ⟨A3, c3, code, e3, hc3, hC3, hw⟩ := ins_row f3
      injection e1 with e1
      injection e2 with e2
      have hS : ∃ A len cap zs, a = .slice A len cap ∧ IsStrs W A len cap zs := by
        rcases open_strings Tryd.underlying22 Tryd.underlying9 c1 f0 with ⟨hcs, _⟩ | ⟨x, l, c, zs, hcs, _, hl, hm, hz, _, hcell, hwz⟩
        · injection hcs with hcs
          exact ⟨none, 0, 0, [], hcs, .inl ⟨rfl, rfl, rfl, rfl⟩⟩
        · injection hcs with hcs
          exact ⟨some x, l, c, zs, hcs, .inr ⟨x, rfl, hl, hm, by simpa using hz, hcell, hwz⟩⟩
      obtain ⟨A0, len0, cap0, zs, e0, hz⟩ := hS
      obtain ⟨ts, rfl, hc0, hC0, hS0⟩ := strs_C hz
      subst e0 e1 e2 e3
      unfold maxLen at w1 w2
      exact ⟨A0, cap0, ts, s1, s2, A3, c3, code, rfl, hc0, hC0, hS0, by unfold Fit; omega, by unfold Fit; omega, hc3, hC3, hw⟩
end
end Go.Proofs.YtkplgfhkebkaaaaDoor.Rw
