/- Texts of this claim, pruned to what it needs and laid together by prune.py. -/
import Derived.Test.YtkplgfhkebkaaaaDoorMC39
import Derived.Test.YtkplgfhkebkaaaaDoorMC40
import Derived.Test.YtkplgfhkebkaaaaDoorMC28
import Derived.Test.YtkplgfhkebkaaaaDoorMC37
import Derived.Test.YtkplgfhkebkaaaaDoorProg
import Derived.Maps.OwnSet
import Derived.KernelRfl
import Derived.RowKit3
namespace Go.Proofs.YtkplgfhkebkaaaaDoor.LL
open Go.RowKit Go.Proofs.YtkplgfhkebkaaaaDoorW.PrintWords Go.Proofs.YtkplgfhkebkaaaaDoorW.PrintMore Go.Proofs.YtkplgfhkebkaaaaDoor.Scan Go.Proofs.YtkplgfhkebkaaaaDoor.F Go.Proofs.YtkplgfhkebkaaaaDoor.FM Go.Proofs.YtkplgfhkebkaaaaDoor.H Go.Proofs.YtkplgfhkebkaaaaDoor.TT Go.Proofs.YtkplgfhkebkaaaaDoor.NX Go.Proofs.YtkplgfhkebkaaaaDoor.FP Go.Proofs.YtkplgfhkebkaaaaDoor.FL Go.Proofs.YtkplgfhkebkaaaaDoor.B8 Go.Proofs.YtkplgfhkebkaaaaDoor.V Go.Proofs.YtkplgfhkebkaaaaDoor.LB Go.Proofs.YtkplgfhkebkaaaaDoor.LG Go.Proofs.YtkplgfhkebkaaaaDoor.GL
set_option linter.unusedVariables false
def a0 : List S47 := [⟨5, 0, 0, 0, 0⟩, ⟨8, 0, 0, 0, 0⟩]
theorem a0_inR : InR (nxt a0) (a0.length + 1) := by
  intro k m hm
  by_cases h : 0 ≤ k ∧ k < a0.length
  · have hl : a0.length = 2 := rfl
    rw [hl] at h ⊢
    obtain rfl | rfl : k = 0 ∨ k = 1 := by omega
    · have e : nxt a0 0 = [1] := by decide
      rw [e, List.mem_singleton] at hm
      omega
    · have e : nxt a0 1 = [2] := by decide
      rw [e, List.mem_singleton] at hm
      omega
  · have e : nxt a0 k = [] := by unfold nxt; rw [if_neg h]
    rw [e] at hm
    cases hm
theorem wf_small {a b c d : Int} (ha : 0 ≤ a ∧ a ≤ 15) (hb : 0 ≤ b ∧ b ≤ 15) (hc : 0 ≤ c ∧ c ≤ 15) (hd : 0 ≤ d ∧ d ≤ 15) : WfI a b c d 0 := ⟨by omega, by omega, by omega, by omega, by omega, by omega⟩
theorem a0_wf : WfC a0 := by
  intro x hx
  simp only [a0, List.mem_cons, List.not_mem_nil, or_false] at hx
  rcases hx with rfl | rfl
  · exact wf_small (by decide) (by decide) (by decide) (by decide)
  · exact wf_small (by decide) (by decide) (by decide) (by decide)
theorem a0_lv : lvI a0 = [0, 1, 0] := by decide +kernel
theorem alive_ev : Ev (fun k => lockstitchlaw08_alive.f k) true := by
  have e : live_In.f [(⟨#[105]⟩ : ByteArray)] (⟨#[48]⟩ : ByteArray) (⟨#[]⟩ : ByteArray) a0 = some [0, 1, 0] := by
    rw [← a0_lv]
    exact if_pos ⟨a0_inR, by decide, a0_wf⟩
  have u : Ev (fun k => live_Uses.f k 11 1 2 0 0) 6 := uses_ev (wf_small (by decide) (by decide) (by decide) (by decide))
  have s : Ev (fun k => live_Sets.f k 7 3 0 0 0) 8 := sets_ev (wf_small (by decide) (by decide) (by decide) (by decide))
  refine ev_bind (ev_all fun _ => e) (Ev.congr (fun k => if_pos (by decide)) (Ev.congr (fun k => if_pos (by decide)) (Ev.congr (fun k => if_pos (by decide)) (Ev.congr (fun k => if_pos (by decide)) (Ev.congr (fun k => if_pos (by decide)) (Ev.congr (fun k => if_pos (by decide)) (Ev.congr (fun k => if_pos (by decide)) ?_)))))))
  exact ev_bind u (Ev.congr (fun k => if_pos rfl) (ev_bind s ev_const))
end Go.Proofs.YtkplgfhkebkaaaaDoor.LL

namespace Go.Proofs.YtkplgfhkebkaaaaDoor.ST
open Go.RowKit Go.Proofs.YtkplgfhkebkaaaaDoorW.PrintWords Go.Proofs.YtkplgfhkebkaaaaDoor.Scan Go.Proofs.YtkplgfhkebkaaaaDoor.F Go.Proofs.YtkplgfhkebkaaaaDoor.KP Go.Proofs.YtkplgfhkebkaaaaDoor.TT Go.Proofs.YtkplgfhkebkaaaaDoor.NX Go.Proofs.YtkplgfhkebkaaaaDoor.FP Go.Proofs.YtkplgfhkebkaaaaDoor.FL Go.Proofs.YtkplgfhkebkaaaaDoor.B8 Go.Proofs.YtkplgfhkebkaaaaDoor.LB
set_option linter.unusedVariables false
set_option linter.unusedSectionVars false
structure Alk (L : S8) (s t : PS) : Prop where
  x : ∀ k : Nat, k < 8 → s.n k = t.n k
  gs : ∀ k : Nat, k < 4 → s.n (16 + k) = t.n (16 + k)
  p : ∀ a : Nat, a < 8 → L.getLsbD a = true → s.n (8 + a) = t.n (8 + a)
  objs : s.objs = t.objs
  out : s.out = t.out
  pc : s.pc = t.pc
  steps : s.steps = t.steps
section
variable {L L' : S8} {s t : PS}
end
section
variable {loc glb sz : Int → Int} {to_ : Int → Int → Int} {x : S47} (hx : KK loc glb sz to_ x) (h1 : 0 ≤ x.f1) (h2 : 0 ≤ x.f2) (h3 : 0 ≤ x.f3) (hop : 1 ≤ x.f0 ∧ x.f0 ≤ 15) (hj : x.f0 ≠ 3 ∧ x.f0 ≠ 4)
include hx h1 h2 h3 hop hj
end
end Go.Proofs.YtkplgfhkebkaaaaDoor.ST

namespace Go.Proofs.YtkplgfhkebkaaaaDoor.ST
open Go.RowKit Go.Proofs.YtkplgfhkebkaaaaDoorW.PrintWords Go.Proofs.YtkplgfhkebkaaaaDoor.Scan Go.Proofs.YtkplgfhkebkaaaaDoor.F Go.Proofs.YtkplgfhkebkaaaaDoor.KP Go.Proofs.YtkplgfhkebkaaaaDoor.TT Go.Proofs.YtkplgfhkebkaaaaDoor.NX Go.Proofs.YtkplgfhkebkaaaaDoor.FP Go.Proofs.YtkplgfhkebkaaaaDoor.FL Go.Proofs.YtkplgfhkebkaaaaDoor.B8 Go.Proofs.YtkplgfhkebkaaaaDoor.LB
set_option linter.unusedVariables false
set_option linter.unusedSectionVars false
section
variable {ts : List ByteArray} {la gl : ByteArray} {code : List S47} (h : SP ts la gl code) (hl : (ts.length : Int) ≤ 9223372036854775807) (hs : ∀ s ∈ ts, (s.size : Int) ≤ 9223372036854775807) (hla : Fit la) (hgl : Fit gl) (hw : WfC code)
include h hl hs hla hgl hw
theorem step_range {s u : PS} (h0 : 0 ≤ s.pc) (h1 : s.pc < code.length) (e : stepP (size ts) (atv ts la) code s = (u, false, 0)) : 0 ≤ u.pc ∧ u.pc ≤ code.length := by
  have := SP.inR h _ _ (step_next h hl hs hla hgl hw h0 h1 e)
  omega
theorem step_wt {ty : List Int} {s u : PS} (h0 : 0 ≤ s.pc) (h1 : s.pc < code.length) (ht : WT (atv ts la) (atv ts gl) (size ts) (to_ ts) ty s) (e : stepP (size ts) (atv ts la) code s = (u, false, 0)) :
    ∃ ty', WT (atv ts la) (atv ts gl) (size ts) (to_ ts) ty' u := by
  obtain ⟨q, hq⟩ := Int.eq_ofNat_of_zero_le h0
  have hql : q < code.length := by omega
  have hx := hw.rd q hql
  have kk := SP.kk h hl hs hla hgl hw q hql
  have hop := (h.all q hql).op
  unfold stepP at e
  rw [if_neg (by omega), hq] at e
  by_cases hc : (rd_T47 code q).f0 = 3 ∨ ((rd_T47 code q).f0 = 4 ∧ s.n (rd_T47 code q).f1.toNat = 0)
  · rw [if_pos hc] at e
    obtain rfl := fst_eq e
    exact ⟨ty, ht.pc _ _ _⟩
  · rw [if_neg hc] at e
    by_cases h4 : (rd_T47 code q).f0 = 4
    · rw [if_pos h4] at e
      obtain rfl := fst_eq e
      exact ⟨ty, ht.pc _ _ _⟩
    · rw [if_neg h4] at e
      split at e
      · rename_i w hw'
        obtain rfl := fst_eq e
        exact stepN_wt kk hx.2.1.1 hx.2.2.1.1 hop ⟨fun hh => hc (.inl hh), h4⟩ (ht.pc ((q : Int) + 1) (wrap64 (s.steps + 1)) s.out) hw'
      · have := congrArg (fun p => p.2.2) e
        simp at this
end
end Go.Proofs.YtkplgfhkebkaaaaDoor.ST

namespace Go.Proofs.YtkplgfhkebkaaaaDoor.ST
open Go.RowKit Go.Proofs.YtkplgfhkebkaaaaDoorW.PrintWords Go.Proofs.YtkplgfhkebkaaaaDoor.Scan Go.Proofs.YtkplgfhkebkaaaaDoor.F Go.Proofs.YtkplgfhkebkaaaaDoor.KP Go.Proofs.YtkplgfhkebkaaaaDoor.TT Go.Proofs.YtkplgfhkebkaaaaDoor.NX Go.Proofs.YtkplgfhkebkaaaaDoor.FP Go.Proofs.YtkplgfhkebkaaaaDoor.FL Go.Proofs.YtkplgfhkebkaaaaDoor.B8 Go.Proofs.YtkplgfhkebkaaaaDoor.LB
set_option linter.unusedVariables false
set_option linter.unusedSectionVars false
def jmp (code : List S47) (s : PS) : PS := { s with pc := if (rd_T47 code s.pc).f0 = 3 ∨ ((rd_T47 code s.pc).f0 = 4 ∧ s.n (rd_T47 code s.pc).f1.toNat = 0) then (rd_T47 code s.pc).f4 else s.pc + 1, steps := wrap64 (s.steps + 1) }
section
variable {ts : List ByteArray} {la gl : ByteArray} {code : List S47} (h : SP ts la gl code) (hl : (ts.length : Int) ≤ 9223372036854775807) (hs : ∀ s ∈ ts, (s.size : Int) ≤ 9223372036854775807) (hla : Fit la) (hgl : Fit gl) (hw : WfC code)
include h hl hs hla hgl hw
end
theorem nxt_back {code : List S47} {a m : Int} (hm : m ∈ nxt code a) (h : m ≤ a) : sf code a = true := by
  unfold nxt at hm
  split at hm
  · rename_i hk
    split at hm
    · rename_i h3
      rw [List.mem_singleton] at hm
      subst hm
      exact decide_eq_true ⟨hk, .inr ⟨.inl h3, h⟩⟩
    · split at hm
      · rename_i h4
        repeat' split at hm
        all_goals simp only [List.mem_cons, List.not_mem_nil, or_false] at hm
        · exact decide_eq_true ⟨hk, .inr ⟨.inr h4, by omega⟩⟩
        · exact decide_eq_true ⟨hk, .inr ⟨.inr h4, by omega⟩⟩
        · omega
      · rw [List.mem_singleton] at hm
        omega
  · cases hm
structure Seen (code : List S47) (seen since : Int → Bool) (pc : Int) : Prop where
  rn : ∀ m, seen m = true → RN (nxt code) m pc
  lt : ∀ m, since m = true → m < pc
theorem Seen.start (code : List S47) : Seen code (fun _ => false) (fun _ => false) 0 := ⟨fun _ h => (by cases h), fun _ h => (by cases h)⟩
theorem Seen.step {code : List S47} {seen since : Int → Bool} {pc pc' : Int} (h : Seen code seen since pc) (hm : pc' ∈ nxt code pc) :
    Seen code (fun m => m == pc || seen m) (if sf code pc = true then fun _ => false else fun m => m == pc || since m) pc' := by
  refine ⟨fun m hs => ?_, fun m hs => ?_⟩
  · simp only [Bool.or_eq_true, beq_iff_eq] at hs
    rcases hs with rfl | hs
    · exact .base hm
    · exact .step (h.rn m hs) hm
  · by_cases hb : sf code pc = true
    · rw [if_pos hb] at hs
      cases hs
    · rw [if_neg hb] at hs
      have hlt : pc < pc' := by
        rcases Int.lt_or_le pc pc' with h' | h'
        · exact h'
        · exact absurd (nxt_back hm h') hb
      simp only [Bool.or_eq_true, beq_iff_eq] at hs
      rcases hs with rfl | hs
      · exact hlt
      · have := h.lt m hs
        omega
theorem Seen.since {code : List S47} {seen since : Int → Bool} {pc : Int} (h : Seen code seen since pc) : since pc = false := by
  cases hb : since pc with
  | false => rfl
  | true =>
    have := h.lt pc hb
    omega
end Go.Proofs.YtkplgfhkebkaaaaDoor.ST

namespace Go.Proofs.YtkplgfhkebkaaaaDoor.ST
open Go.RowKit Go.Proofs.YtkplgfhkebkaaaaDoorW.PrintWords Go.Proofs.YtkplgfhkebkaaaaDoor.Scan Go.Proofs.YtkplgfhkebkaaaaDoor.F Go.Proofs.YtkplgfhkebkaaaaDoor.FM Go.Proofs.YtkplgfhkebkaaaaDoor.H Go.Proofs.YtkplgfhkebkaaaaDoor.KP Go.Proofs.YtkplgfhkebkaaaaDoor.TT Go.Proofs.YtkplgfhkebkaaaaDoor.NX Go.Proofs.YtkplgfhkebkaaaaDoor.FP Go.Proofs.YtkplgfhkebkaaaaDoor.FL
set_option linter.unusedVariables false
set_option linter.unusedSectionVars false
section
variable {ts : List ByteArray} {la gl : ByteArray} {code : List S47} (hl : (ts.length : Int) ≤ 9223372036854775807) (hsz : ∀ s ∈ ts, (s.size : Int) ≤ 9223372036854775807) (hla : Fit la) (hgl : Fit gl) (hc : (code.length : Int) ≤ 9223372036854775807) (hw : WfC code)
include hl hsz hla hgl hc hw
theorem sound_chk : ∃ b, Ev (fun k => lockstitchlaw07_Sound.f k ts la gl code) b ∧ (b = true → SP ts la gl code ∧ ∃ ck, Ev (fun k => lockstitchref05_Check.f k ts la gl code) (ck, 0)) := by
  obtain ⟨q, hq⟩ : Tot (fun k => lockstitchlaw04_Few.f k ts la gl code) := few_l0 ts hl la gl code ts.length 0 _ (Nat.zero_add _)
  cases q with
  | false => exact ⟨false, ev_bind hq (Ev.congr (fun k => if_neg (by decide)) ev_const), fun e => by cases e⟩
  | true =>
    by_cases h : (code.length : Int) > 60
    · exact ⟨false, ev_bind hq (Ev.congr (fun k => if_pos rfl) (Ev.congr (fun k => if_pos h) ev_const)), fun e => by cases e⟩
    · obtain ⟨r, h1, h2⟩ := check_tot ts hl hsz la gl hla hgl code hc hw
      refine ⟨_, ev_bind hq (Ev.congr (fun k => if_pos rfl) (Ev.congr (fun k => if_neg h) (ev_bind h1 ev_const))), fun e => ?_⟩
      have e0 : r.2 = 0 := beq_iff_eq.1 e
      obtain ⟨a, b, c, d⟩ := h2 e0
      exact ⟨⟨a, by omega, b, c, d⟩, r.1, by rw [← e0]; exact h1⟩
end
section
variable {w : World} {A0 : Option Addr} {c0 : Nat} {ts : List ByteArray} {la gl : ByteArray} {A3 : Option Addr} {c3 : Nat} {code : List S47} {P : Nat → Prop}
  (hT : Kd.C Kd.string w A0 ts.length ts) (hc0 : ts.length ≤ c0) (hC : Kd.C k47 w A3 code.length code) (hc3 : code.length ≤ c3) {kc : Nat} {ck : Int} (hK : lockstitchref05_Check.f kc ts la gl code = some (ck, 0)) (htab : TB w)
  (hsp : SP ts la gl code) (hl : (ts.length : Int) ≤ 9223372036854775807) (hsz : ∀ s ∈ ts, (s.size : Int) ≤ 9223372036854775807) (hla : Fit la) (hgl : Fit gl) (hw : WfC code)
  {s : PS} {cs : Array Value} (hS : IsS w P s cs) {ty : List Int} (hW : WT (atv ts la) (atv ts gl) (size ts) (to_ ts) ty s) (h0 : 0 ≤ s.pc) (h1 : s.pc ≤ code.length) (hn1 : s.objs.length ≤ 1000000) (hn2 : s.out.length ≤ 1000000)
include hT hc0 hC hc3 hK htab hsp hl hsz hla hgl hw hS hW h0 h1 hn1 hn2
theorem Step_ps : Calls Tryd.prog 12 #[.agg #[.slice A0 ts.length c0, .string la, .string gl, .slice A3 code.length c3], .agg cs] w fun e w' =>
    ∃ cs', e = .returned (.tuple #[.agg cs', .bool (stepP (size ts) (atv ts la) code s).2.1, .int .i64 (stepP (size ts) (atv ts la) code s).2.2]) ∧ IsS w' (fun k => P k ∨ w.heap.size ≤ k) (stepP (size ts) (atv ts la) code s).1 cs' ∧ Below w.heap.size w w' := by
  obtain ⟨oA, hs, oc, tA, tc, rfl, hoc, htc, hO, hTo⟩ := hS
  obtain ⟨p, hp⟩ := Int.eq_ofNat_of_zero_le h0
  obtain ⟨n, objs, out, pc, st⟩ := s
  simp only at hp hoc htc hO hTo hn1 hn2 h0 h1 ⊢
  subst hp
  have hLoc : ∀ a : Int, 0 ≤ a → a ≤ 255 → Ev (fun k => lockstitchref05_Local.f k ts la gl code a) (atv ts la a) := fun a ha0 ha1 => ev_bind (at_ev ts hl hsz la hla a ha0 ha1) ev_const
  have hSz : ∀ x : Int, Ev (fun k => lockstitchref03_Size.f k ts x) (size ts x) := fun x => ref_Size_ev ts hl hsz x
  have hlen := hO.now.len
  have hWl := hW.len
  simp only at hWl
  by_cases he : (p : Int) = code.length
  · have e : stepP (size ts) (atv ts la) code ⟨n, objs, out, p, st⟩ = (⟨n, objs, out, p, st⟩, true, 0) := if_pos he
    rw [e]
    exact ps_end hT hc0 hC hc3 hK htab hLoc hSz hO hoc hTo htc (by omega)
  have hpl : p < code.length := by omega
  have hx := hw.rd p hpl
  have kk := SP.kk hsp hl hsz hla hgl hw p hpl
  have hop := (hsp.all p hpl).op
  obtain ⟨⟨o0, _⟩, ⟨a0, a9⟩, ⟨b0, b9⟩, ⟨c0', c9⟩, _⟩ := hx
  obtain ⟨a, ha⟩ := Int.eq_ofNat_of_zero_le a0
  obtain ⟨b, hb⟩ := Int.eq_ofNat_of_zero_le b0
  obtain ⟨c, hc⟩ := Int.eq_ofNat_of_zero_le c0'
  obtain ⟨N, hN⟩ : ∃ N, (rd_T47 code p).f4 = N := ⟨_, rfl⟩
  have kia := kk.ia
  have kib := kk.ib
  have kic := kk.ic
  have kpa := kk.pa
  have kpb := kk.pb
  have kpc := kk.pc
  have kga := kk.ga
  have kgb := kk.gb
  rw [ha] at kia kpa kga
  rw [hb] at kib kpb kgb
  rw [hc] at kic kpc
  have FLD : ∀ {q : Nat} {t : Int}, (q : Int) < 8 → atv ts la (q : Int) = t → ¬ n (8 + q) = 0 → 0 ≤ N → N < size ts t → ∃ o f : Nat, n (8 + q) = (o : Int) + 1 ∧ N = (f : Int) ∧ o < hs.length ∧ f < (objs.getD o []).length ∧ (objs.getD o []).length ≤ 1000000 := by
    intro q t hq et hz hN0 hN1
    have := (hW.ps q (by omega)).resolve_left hz
    simp only at this
    obtain ⟨g1, g2, g3⟩ := this
    rw [et] at g3
    have hol := hW.os (n (8 + q) - 1).toNat (by simp only; omega)
    simp only at hol
    rw [g3] at hol
    have h6 := typ_le ts t
    have hs6 : size ts t ≤ 6 := by unfold size; omega
    exact ⟨(n (8 + q) - 1).toNat, N.toNat, by omega, by omega, by omega, by omega, by omega⟩
  unfold stepP
  simp only
  rw [if_neg he]
  by_cases o3 : (rd_T47 code p).f0 = 3
  · rw [if_pos (.inl o3)]
    simp only
    rw [hN]
    exact ps_jump hT hc0 hC hc3 hK htab hLoc hSz hO hoc hTo htc a b c N hpl o3 ha hb hc hN
  by_cases o4 : (rd_T47 code p).f0 = 4
  · have hx8 := kia (by omega)
    by_cases hz : n a = 0
    · rw [if_pos (.inr ⟨o4, by rw [ha]; simpa using hz⟩)]
      simp only
      rw [hN]
      exact ps_zero hT hc0 hC hc3 hK htab hLoc hSz hO hoc hTo htc a b c N hpl o4 ha hb hc hN hx8 hz
    · rw [if_neg (by rintro (e | e); exact o3 e; exact hz (by have := e.2; rw [ha] at this; simpa using this)), if_pos o4]
      simp only
      exact ps_pass hT hc0 hC hc3 hK htab hLoc hSz hO hoc hTo htc a b c N hpl o4 ha hb hc hN hx8 hz
  rw [if_neg (by rintro (e | e); exact o3 e; exact o4 e.1), if_neg o4]
  unfold stepN
  simp only
  rw [ha, hb, hc, hN]
  simp only [Int.toNat_natCast]
  by_cases g1 : (rd_T47 code p).f0 = 1
  · rw [if_pos g1]
    exact ps_set hT hc0 hC hc3 hK htab hLoc hSz hO hoc hTo htc a b c N hpl g1 ha hb hc hN (kia (by omega))
  rw [if_neg g1]
  by_cases g2 : (rd_T47 code p).f0 = 2
  · rw [if_pos g2]
    exact ps_add hT hc0 hC hc3 hK htab hLoc hSz hO hoc hTo htc a b c N hpl g2 ha hb hc hN (kia (by omega)) (kib (by omega)) (kic (by omega))
  rw [if_neg g2]
  by_cases g15 : (rd_T47 code p).f0 = 15
  · rw [if_pos g15]
    by_cases hh : n (8 + b) = n (8 + c)
    · rw [if_pos hh]
      exact ps_same_eq hT hc0 hC hc3 hK htab hLoc hSz hO hoc hTo htc a b c N hpl g15 ha hb hc hN (kia (by omega)) (kpb (by omega)) (kpc (by omega)) hh
    · rw [if_neg hh]
      exact ps_same_ne hT hc0 hC hc3 hK htab hLoc hSz hO hoc hTo htc a b c N hpl g15 ha hb hc hN (kia (by omega)) (kpb (by omega)) (kpc (by omega)) hh
  rw [if_neg g15]
  by_cases g14 : (rd_T47 code p).f0 = 14
  · rw [if_pos g14]
    exact ps_print hT hc0 hC hc3 hK htab hLoc hSz hO hoc hTo htc a b c N hpl g14 ha hb hc hN (kia (by omega)) hn2
  rw [if_neg g14]
  by_cases g5 : (rd_T47 code p).f0 = 5
  · rw [if_pos g5]
    obtain ⟨k1, e1⟩ := ev_at (hLoc (a : Int) (by omega) (by omega))
    obtain ⟨k2, e2⟩ := ev_at (hSz (atv ts la (a : Int)))
    have h6 := typ_le ts (atv ts la (a : Int))
    have en : size ts (atv ts la (a : Int)) = (((size ts (atv ts la (a : Int))).toNat : Nat) : Int) := by unfold size; omega
    rw [en] at e2
    have e5 : ((objs.length + 1 : Nat) : Int) = (hs.length : Int) + 1 := by omega
    rw [e5]
    exact ps_new hT hc0 hC hc3 hK htab hLoc hSz hO hoc hTo htc a b c N hpl g5 ha hb hc hN (kpa (by omega)) (by omega) (size ts (atv ts la (a : Int))).toNat k1 k2 _ (by unfold size; omega) e1 e2
  rw [if_neg g5]
  by_cases g6 : (rd_T47 code p).f0 = 6
  · rw [if_pos g6]
    exact ps_nil hT hc0 hC hc3 hK htab hLoc hSz hO hoc hTo htc a b c N hpl g6 ha hb hc hN (kpa (by omega))
  rw [if_neg g6]
  by_cases g7 : (rd_T47 code p).f0 = 7
  · rw [if_pos g7]
    exact ps_move hT hc0 hC hc3 hK htab hLoc hSz hO hoc hTo htc a b c N hpl g7 ha hb hc hN (kpa (by omega)) (kpb (by omega))
  rw [if_neg g7]
  by_cases g12 : (rd_T47 code p).f0 = 12
  · rw [if_pos g12]
    exact ps_loadG hT hc0 hC hc3 hK htab hLoc hSz hO hoc hTo htc a b c N hpl g12 ha hb hc hN (kpa (by omega)) (kgb (by omega))
  rw [if_neg g12]
  by_cases g13 : (rd_T47 code p).f0 = 13
  · rw [if_pos g13]
    exact ps_storeG hT hc0 hC hc3 hK htab hLoc hSz hO hoc hTo htc a b c N hpl g13 ha hb hc hN (kga (by omega)) (kpb (by omega))
  rw [if_neg g13]
  by_cases g8 : (rd_T47 code p).f0 = 8
  · rw [if_pos g8]
    by_cases hz : n (8 + b) = 0
    · rw [if_pos hz]
      exact ps_none8 hT hc0 hC hc3 hK htab hLoc hSz hO hoc hTo htc a b c N hpl g8 ha hb hc hN (kpb (by omega)) hz
    · rw [if_neg hz]
      obtain ⟨_, k2, k3⟩ := kk.loadI g8
      rw [hb, hN] at k3
      rw [hN] at k2
      obtain ⟨o, f, q1, q2, q3, q4, _⟩ := FLD (kpb (by omega)) rfl hz k2 k3
      have ef : fld objs (n (8 + b)) N = (objs.getD o []).getD f 0 := by unfold fld; rw [q1, q2]; simp
      rw [ef]
      exact ps_loadI hT hc0 hC hc3 hK htab hLoc hSz hO hoc hTo htc a b c o f hpl g8 ha hb hc (hN.trans q2) q3 q4 q1 (kia (by omega)) (kpb (by omega))
  rw [if_neg g8]
  by_cases g10 : (rd_T47 code p).f0 = 10
  · rw [if_pos g10]
    by_cases hz : n (8 + b) = 0
    · rw [if_pos hz]
      exact ps_none10 hT hc0 hC hc3 hK htab hLoc hSz hO hoc hTo htc a b c N hpl g10 ha hb hc hN (kpb (by omega)) hz
    · rw [if_neg hz]
      obtain ⟨k2, k3, _⟩ := kk.loadP g10
      rw [hb, hN] at k3
      rw [hN] at k2
      obtain ⟨o, f, q1, q2, q3, q4, _⟩ := FLD (kpb (by omega)) rfl hz k2 k3
      have ef : fld objs (n (8 + b)) N = (objs.getD o []).getD f 0 := by unfold fld; rw [q1, q2]; simp
      rw [ef]
      exact ps_loadP hT hc0 hC hc3 hK htab hLoc hSz hO hoc hTo htc a b c o f hpl g10 ha hb hc (hN.trans q2) q3 q4 q1 (kpa (by omega)) (kpb (by omega))
  rw [if_neg g10]
  by_cases g9 : (rd_T47 code p).f0 = 9
  · rw [if_pos g9]
    by_cases hz : n (8 + a) = 0
    · rw [if_pos hz]
      exact ps_none9 hT hc0 hC hc3 hK htab hLoc hSz hO hoc hTo htc a b c N hpl g9 ha hb hc hN (kpa (by omega)) hz
    · rw [if_neg hz]
      obtain ⟨k2, k3, _⟩ := kk.storeI g9
      rw [ha, hN] at k3
      rw [hN] at k2
      obtain ⟨o, f, q1, q2, q3, q4, q5⟩ := FLD (kpa (by omega)) rfl hz k2 k3
      have ef : ∀ v, putF objs (n (8 + a)) N v = objs.set o ((objs.getD o []).set f v) := fun v => by unfold putF; rw [q1, q2]; simp
      rw [ef]
      exact ps_storeI hT hc0 hC hc3 hK htab hLoc hSz hO hoc hTo htc a b c o f hpl g9 ha hb hc (hN.trans q2) q3 q4 (by omega) q5 q1 (kpa (by omega)) (kib (by omega))
  rw [if_neg g9]
  have g11 : (rd_T47 code p).f0 = 11 := by omega
  by_cases hz : n (8 + a) = 0
  · rw [if_pos hz]
    exact ps_none11 hT hc0 hC hc3 hK htab hLoc hSz hO hoc hTo htc a b c N hpl g11 ha hb hc hN (kpa (by omega)) hz
  · rw [if_neg hz]
    obtain ⟨k2, k3, _⟩ := kk.storeP g11
    rw [ha, hN] at k3
    rw [hN] at k2
    obtain ⟨o, f, q1, q2, q3, q4, q5⟩ := FLD (kpa (by omega)) rfl hz k2 k3
    have ef : ∀ v, putF objs (n (8 + a)) N v = objs.set o ((objs.getD o []).set f v) := fun v => by unfold putF; rw [q1, q2]; simp
    rw [ef]
    exact ps_storeP hT hc0 hC hc3 hK htab hLoc hSz hO hoc hTo htc a b c o f hpl g11 ha hb hc (hN.trans q2) q3 q4 (by omega) q5 q1 (kpa (by omega)) (kpb (by omega))
end
end Go.Proofs.YtkplgfhkebkaaaaDoor.ST

namespace Go.Proofs.YtkplgfhkebkaaaaDoor.ST
open Go.RowKit Go.Proofs.YtkplgfhkebkaaaaDoorW.PrintWords Go.Proofs.YtkplgfhkebkaaaaDoor.Scan Go.Proofs.YtkplgfhkebkaaaaDoor.F Go.Proofs.YtkplgfhkebkaaaaDoor.FM Go.Proofs.YtkplgfhkebkaaaaDoor.H Go.Proofs.YtkplgfhkebkaaaaDoor.KP Go.Proofs.YtkplgfhkebkaaaaDoor.TT Go.Proofs.YtkplgfhkebkaaaaDoor.NX Go.Proofs.YtkplgfhkebkaaaaDoor.FP Go.Proofs.YtkplgfhkebkaaaaDoor.FL
set_option linter.unusedVariables false
set_option linter.unusedSectionVars false
theorem stepN_len {sz loc : Int → Int} {x : S47} {s u : PS} (e : stepN sz loc x s = some u) : u.objs.length ≤ s.objs.length + 1 ∧ u.out.length ≤ s.out.length + 1 ∧ s.objs.length ≤ u.objs.length := by
  have hp : ∀ o f v, (putF s.objs o f v).length = s.objs.length := fun o f v => by unfold putF; rw [List.length_set]
  unfold stepN at e
  by_cases o1 : x.f0 = 1
  · rw [if_pos o1] at e
    obtain rfl := Option.some.inj e
    exact ⟨Nat.le_succ _, Nat.le_succ _, Nat.le_refl _⟩
  rw [if_neg o1] at e
  by_cases o2 : x.f0 = 2
  · rw [if_pos o2] at e
    obtain rfl := Option.some.inj e
    exact ⟨Nat.le_succ _, Nat.le_succ _, Nat.le_refl _⟩
  rw [if_neg o2] at e
  by_cases o15 : x.f0 = 15
  · rw [if_pos o15] at e
    obtain rfl := Option.some.inj e
    exact ⟨Nat.le_succ _, Nat.le_succ _, Nat.le_refl _⟩
  rw [if_neg o15] at e
  by_cases o14 : x.f0 = 14
  · rw [if_pos o14] at e
    obtain rfl := Option.some.inj e
    exact ⟨Nat.le_succ _, by simp, Nat.le_refl _⟩
  rw [if_neg o14] at e
  by_cases o5 : x.f0 = 5
  · rw [if_pos o5] at e
    obtain rfl := Option.some.inj e
    exact ⟨by simp, Nat.le_succ _, by simp⟩
  rw [if_neg o5] at e
  by_cases o6 : x.f0 = 6
  · rw [if_pos o6] at e
    obtain rfl := Option.some.inj e
    exact ⟨Nat.le_succ _, Nat.le_succ _, Nat.le_refl _⟩
  rw [if_neg o6] at e
  by_cases o7 : x.f0 = 7
  · rw [if_pos o7] at e
    obtain rfl := Option.some.inj e
    exact ⟨Nat.le_succ _, Nat.le_succ _, Nat.le_refl _⟩
  rw [if_neg o7] at e
  by_cases o12 : x.f0 = 12
  · rw [if_pos o12] at e
    obtain rfl := Option.some.inj e
    exact ⟨Nat.le_succ _, Nat.le_succ _, Nat.le_refl _⟩
  rw [if_neg o12] at e
  by_cases o13 : x.f0 = 13
  · rw [if_pos o13] at e
    obtain rfl := Option.some.inj e
    exact ⟨Nat.le_succ _, Nat.le_succ _, Nat.le_refl _⟩
  rw [if_neg o13] at e
  by_cases o8 : x.f0 = 8
  · rw [if_pos o8] at e
    split at e
    · cases e
    · obtain rfl := Option.some.inj e
      exact ⟨Nat.le_succ _, Nat.le_succ _, Nat.le_refl _⟩
  rw [if_neg o8] at e
  by_cases o10 : x.f0 = 10
  · rw [if_pos o10] at e
    split at e
    · cases e
    · obtain rfl := Option.some.inj e
      exact ⟨Nat.le_succ _, Nat.le_succ _, Nat.le_refl _⟩
  rw [if_neg o10] at e
  by_cases o9 : x.f0 = 9
  · rw [if_pos o9] at e
    split at e
    · cases e
    · obtain rfl := Option.some.inj e
      exact ⟨by rw [hp]; exact Nat.le_succ _, Nat.le_succ _, by rw [hp]; exact Nat.le_refl _⟩
  rw [if_neg o9] at e
  split at e
  · cases e
  · obtain rfl := Option.some.inj e
    exact ⟨by rw [hp]; exact Nat.le_succ _, Nat.le_succ _, by rw [hp]; exact Nat.le_refl _⟩
structure SInv (ts : List ByteArray) (la gl : ByteArray) (code : List S47) (i : Nat) (s : PS) : Prop where
  pc0 : 0 ≤ s.pc
  pc1 : s.pc ≤ code.length
  wt : ∃ ty, WT (atv ts la) (atv ts gl) (size ts) (to_ ts) ty s
  objs : s.objs.length ≤ i
  out : s.out.length ≤ i
def PS0 : PS := ⟨fun _ => 0, [], [], 0, 0⟩
theorem SInv.start (ts : List ByteArray) (la gl : ByteArray) (code : List S47) : SInv ts la gl code 0 PS0 := ⟨Int.le_refl _, Int.natCast_nonneg _, ⟨[], WT.start _ _ _ _⟩, Nat.le_refl _, Nat.le_refl _⟩
section
variable {ts : List ByteArray} {la gl : ByteArray} {code : List S47} (h : SP ts la gl code) (hl : (ts.length : Int) ≤ 9223372036854775807) (hs : ∀ s ∈ ts, (s.size : Int) ≤ 9223372036854775807) (hla : Fit la) (hgl : Fit gl) (hw : WfC code)
include h hl hs hla hgl hw
theorem SInv.step {i : Nat} {s u : PS} (hI : SInv ts la gl code i s) (e : stepP (size ts) (atv ts la) code s = (u, false, 0)) : s.pc < code.length ∧ SInv ts la gl code (i + 1) u ∧ s.objs.length ≤ u.objs.length := by
  have hlt : s.pc < code.length := by
    rcases Int.lt_or_le s.pc code.length with h' | h'
    · exact h'
    · have : s.pc = code.length := by have := hI.pc1; omega
      unfold stepP at e
      rw [if_pos this] at e
      have := congrArg (fun p => p.2.1) e
      simp at this
  obtain ⟨ty, hty⟩ := hI.wt
  have hr := step_range h hl hs hla hgl hw hI.pc0 hlt e
  refine ⟨hlt, ⟨hr.1, hr.2, step_wt h hl hs hla hgl hw hI.pc0 hlt hty e, ?_, ?_⟩, ?_⟩
  all_goals
    have ho := hI.objs
    have ht := hI.out
    unfold stepP at e
    rw [if_neg (by omega)] at e
    split at e
    · obtain rfl := fst_eq e
      simp only
      omega
    · split at e
      · obtain rfl := fst_eq e
        simp only
        omega
      · split at e
        · rename_i v hv
          obtain rfl := fst_eq e
          have := stepN_len hv
          simp only at this
          omega
        · have := congrArg (fun p => p.2.2) e
          simp at this
end
structure LW (Ws wr : World) (s : PS) (cs : Array Value) : Prop where
  below : Below Ws.heap.size Ws wr
  row : wr.heap[Ws.heap.size]? = some (.cells cs 34 (0, 0))
  is : IsS wr (fun k => k ≠ Ws.heap.size) s cs
theorem LW.start (Ws : World) : LW Ws (Ws.alloc (.cells #[.int .i64 0, .int .i64 0, .int .i64 0, .int .i64 0, .int .i64 0, .int .i64 0, .int .i64 0, .int .i64 0, .int .i64 0, .int .i64 0, .int .i64 0, .int .i64 0, .int .i64 0, .int .i64 0, .int .i64 0, .int .i64 0, .int .i64 0, .int .i64 0, .int .i64 0, .int .i64 0, .slice none 0 0, .slice none 0 0, .int .i64 0, .int .i64 0] 34)) PS0 #[.int .i64 0, .int .i64 0, .int .i64 0, .int .i64 0, .int .i64 0, .int .i64 0, .int .i64 0, .int .i64 0, .int .i64 0, .int .i64 0, .int .i64 0, .int .i64 0, .int .i64 0, .int .i64 0, .int .i64 0, .int .i64 0, .int .i64 0, .int .i64 0, .int .i64 0, .int .i64 0, .slice none 0 0, .slice none 0 0, .int .i64 0, .int .i64 0] :=
  ⟨below_alloc (Below.refl _ _) _, heap_alloc_new _ _, none, [], 0, none, 0, rfl, Nat.le_refl _, Nat.le_refl _, fun W' _ => Objs.none W', fun W' _ => Kd.C_nil _ W'⟩
theorem IsS.size {w : World} {P : Nat → Prop} {s : PS} {cs : Array Value} (h : IsS w P s cs) : cs.size = 24 := by
  obtain ⟨oA, hs, oc, tA, tc, rfl, _⟩ := h
  rfl
theorem IsS.one {w : World} {P : Nat → Prop} {s : PS} {cs : Array Value} (h : IsS w P s cs) : cs.toList.all (·.oneCell') = true := by
  obtain ⟨oA, hs, oc, tA, tc, rfl, _⟩ := h
  rfl
end Go.Proofs.YtkplgfhkebkaaaaDoor.ST

namespace Go.Proofs.YtkplgfhkebkaaaaDoor.MB
open Go.RowKit Go.Maps
set_option linter.unusedVariables false
theorem plainElem_bool_inv {H : Type} {P : Program} {e : TypeId} (he : P.underlying e = some .bool) {v : Value} {z : DataW H × List MemPlace} (h : plainElem P e v = some z) : ∃ a, v = .bool a ∧ z = (.lit (.bool a), []) := by
  cases v with
  | bool x =>
    simp [plainElem, he] at h
    exact ⟨x, rfl, h.symm⟩
  | _ => simp [plainElem, he] at h
theorem keyed : Maps.Keyed Tryd.prog 3 := int_keyed Tryd.underlying3
theorem zero_bool (w : World) : (zeroValue 4).run Tryd.prog w = .ok (.bool false) w := by kernel_rfl
def SetM (w : World) (b n : Nat) (f : Int → Bool) : Prop :=
  ∃ D : DataW Unit, w.ownsMap Tryd.prog 3 (plainElem Tryd.prog 4) b n D ∧ ∀ m : Int, (Lit.int .i64 m).wf = true → D.atKey (.int .i64 m) (.lit (.bool false)) = .lit (.bool (f m))
theorem set_new (w : World) : SetM (w.alloc (.map #[] 0)) w.heap.size 0 (fun _ => false) := ⟨_, World.ownsMap_made w _ _ _, fun m _ => rfl⟩
theorem key_of {m : Int} (h : (Lit.int .i64 m).wf = true) : keyOf Tryd.prog 3 (.int .i64 m) = some (.int .i64 m) := by
  rw [keyOf_int Tryd.underlying3]
  simp [mapKey, Tryd.underlying3, h]
theorem SetM.look {w : World} {b n : Nat} {f : Int → Bool} (h : SetM w b n f) {m : Int} (hm : (Lit.int .i64 m).wf = true) : (Instr.lookup 35 (.map (some b)) (.int .i64 m) false).run Tryd.prog w = .ok (.bool (f m)) w := by
  obtain ⟨D, ho, hf⟩ := h
  obtain ⟨v, ps, hrun, hv⟩ := ho.lookup keyed Tryd.underlying35 (zero_bool w) (plainElem_bool Tryd.underlying4 false) (key_of hm)
  obtain ⟨a, rfl, hz⟩ := plainElem_bool_inv Tryd.underlying4 hv
  simp only [Prod.mk.injEq] at hz
  rw [hf m hm] at hz
  obtain rfl : f m = a := Lit.bool.inj (DataW.lit.inj hz.1)
  exact hrun
theorem SetM.put {w : World} {b n : Nat} {f : Int → Bool} (h : SetM w b n f) (hn : n < maxLen) {m : Int} (hm : (Lit.int .i64 m).wf = true) :
    ∃ w', (Instr.mapUpdate 35 (.map (some b)) (.int .i64 m) (.bool true)).run Tryd.prog w = .ok () w' ∧ SetM w' b (n + 1) (fun x => x == m || f x) ∧ w.grownBy w' (some b) := by
  obtain ⟨D, ho, hf⟩ := h
  obtain ⟨w', hrun, ho', hg⟩ := ho.update keyed Tryd.underlying35 hn (key_of hm) (plainElem_bool Tryd.underlying4 true)
  refine ⟨w', hrun, ⟨_, ho', fun x hx => ?_⟩, hg⟩
  by_cases e : x = m
  · subst e
    rw [atKey_put_same ho.isMap (by simp [WideAt.IsKeyLit])]
    simp
  · rw [atKey_put_other (fun e' => e (by injection e')), hf x hx]
    have : (x == m) = false := by simpa using e
    simp only [this, Bool.false_or]
theorem SetM.kept {w w' : World} {b n : Nat} {f : Int → Bool} {row : Option Nat} (h : SetM w b n f) (hg : w.grownBy w' row) (hne : some b ≠ row) : SetM w' b n f := by
  obtain ⟨D, ho, hf⟩ := h
  exact ⟨D, ho.kept hg hne, hf⟩
theorem SetM.mono {w : World} {b n n' : Nat} {f : Int → Bool} (h : SetM w b n f) (hn : n ≤ n') : SetM w b n' f := by
  obtain ⟨D, ho, hf⟩ := h
  exact ⟨D, ho.mono hn, hf⟩
theorem SetM.move {w w' : World} {b n : Nat} {f : Int → Bool} (h : SetM w b n f) (hb : w'.heap[b]? = w.heap[b]?) : SetM w' b n f := by
  obtain ⟨D, ⟨es, cl, h1, h2⟩, hf⟩ := h
  exact ⟨D, ⟨es, cl, hb.trans h1, h2⟩, hf⟩
theorem SetM.lt {w : World} {b n : Nat} {f : Int → Bool} (h : SetM w b n f) : b < w.heap.size := by
  obtain ⟨D, ho, _⟩ := h
  exact ho.lt
end Go.Proofs.YtkplgfhkebkaaaaDoor.MB

namespace Go.Proofs.YtkplgfhkebkaaaaDoor.ST
open Go.RowKit Go.Proofs.YtkplgfhkebkaaaaDoorW.PrintWords Go.Proofs.YtkplgfhkebkaaaaDoor.Scan Go.Proofs.YtkplgfhkebkaaaaDoor.F Go.Proofs.YtkplgfhkebkaaaaDoor.FM Go.Proofs.YtkplgfhkebkaaaaDoor.H Go.Proofs.YtkplgfhkebkaaaaDoor.KP Go.Proofs.YtkplgfhkebkaaaaDoor.TT Go.Proofs.YtkplgfhkebkaaaaDoor.NX Go.Proofs.YtkplgfhkebkaaaaDoor.FP Go.Proofs.YtkplgfhkebkaaaaDoor.FL Go.Proofs.YtkplgfhkebkaaaaDoor.MB
set_option linter.unusedVariables false
set_option linter.unusedSectionVars false
theorem IsS.bound {w : World} {P : Nat → Prop} {s : PS} {cs : Array Value} (h : IsS w P s cs) : IsS w (fun k => P k ∧ k < w.heap.size) s cs := by
  obtain ⟨oA, hs, oc, tA, tc, e, h1, h2, h3, h4⟩ := h
  exact ⟨oA, hs, oc, tA, tc, e, h1, h2, h3.bound, h4.bound⟩
theorem IsS.pc {w : World} {P : Nat → Prop} {s : PS} {cs : Array Value} (h : IsS w P s cs) : cs[22]? = some (.int .i64 s.pc) := by
  obtain ⟨oA, hs, oc, tA, tc, rfl, _⟩ := h
  rfl
theorem any_take {xs : List Int} {m : Nat} (hm : m < xs.length) (p : Int) : (xs.take (m + 1)).any (· == p) = ((xs.take m).any (· == p) || rd xs m == p) := by
  have e : rd xs (m : Int) = xs[m] := by
    unfold rd
    rw [Int.toNat_natCast, List.getD_eq_getElem?_getD, List.getElem?_eq_getElem hm]
    rfl
  rw [← List.take_append_getElem hm, List.any_append, e]
  simp
def PW (Ws wr : World) (bn k : Nat) : Prop := k ≠ Ws.heap.size ∧ k ≠ Ws.heap.size + 1 ∧ k ≠ bn ∧ k < wr.heap.size
structure LM (Ws wr : World) (s : PS) (cs : Array Value) (bn k : Nat) (fs fn : Int → Bool) : Prop where
  below : Below Ws.heap.size Ws wr
  row : wr.heap[Ws.heap.size]? = some (.cells cs 34 (0, 0))
  seen : SetM wr (Ws.heap.size + 1) k fs
  since : SetM wr bn k fn
  bn1 : bn ≠ Ws.heap.size + 1
  bn0 : Ws.heap.size < bn
  is : IsS wr (PW Ws wr bn) s cs
theorem LM.start (Ws : World) : LM Ws (((Ws.alloc (.cells #[.int .i64 0, .int .i64 0, .int .i64 0, .int .i64 0, .int .i64 0, .int .i64 0, .int .i64 0, .int .i64 0, .int .i64 0, .int .i64 0, .int .i64 0, .int .i64 0, .int .i64 0, .int .i64 0, .int .i64 0, .int .i64 0, .int .i64 0, .int .i64 0, .int .i64 0, .int .i64 0, .slice none 0 0, .slice none 0 0, .int .i64 0, .int .i64 0] 34)).alloc (.map #[] 0)).alloc (.map #[] 0)) PS0 #[.int .i64 0, .int .i64 0, .int .i64 0, .int .i64 0, .int .i64 0, .int .i64 0, .int .i64 0, .int .i64 0, .int .i64 0, .int .i64 0, .int .i64 0, .int .i64 0, .int .i64 0, .int .i64 0, .int .i64 0, .int .i64 0, .int .i64 0, .int .i64 0, .int .i64 0, .int .i64 0, .slice none 0 0, .slice none 0 0, .int .i64 0, .int .i64 0] (Ws.heap.size + 1 + 1) 0 (fun _ => false) (fun _ => false) := by
  refine ⟨below_alloc (below_alloc (LW.start Ws).below (.map #[] 0)) (.map #[] 0), row_old _ _ _ (by simp <;> omega) (row_old _ _ _ (by simp <;> omega) (LW.start Ws).row), ?_, ?_, by omega, by omega, ?_⟩
  · have := MB.set_new (Ws.alloc (.cells #[.int .i64 0, .int .i64 0, .int .i64 0, .int .i64 0, .int .i64 0, .int .i64 0, .int .i64 0, .int .i64 0, .int .i64 0, .int .i64 0, .int .i64 0, .int .i64 0, .int .i64 0, .int .i64 0, .int .i64 0, .int .i64 0, .int .i64 0, .int .i64 0, .int .i64 0, .int .i64 0, .slice none 0 0, .slice none 0 0, .int .i64 0, .int .i64 0] 34))
    simp at this
    exact this.move (heap_old2 _ _ (by simp))
  · have := MB.set_new ((Ws.alloc (.cells #[.int .i64 0, .int .i64 0, .int .i64 0, .int .i64 0, .int .i64 0, .int .i64 0, .int .i64 0, .int .i64 0, .int .i64 0, .int .i64 0, .int .i64 0, .int .i64 0, .int .i64 0, .int .i64 0, .int .i64 0, .int .i64 0, .int .i64 0, .int .i64 0, .int .i64 0, .int .i64 0, .slice none 0 0, .slice none 0 0, .int .i64 0, .int .i64 0] 34)).alloc (.map #[] 0))
    simpa using this
  · exact ⟨none, [], 0, none, 0, rfl, Nat.le_refl _, Nat.le_refl _, fun W' _ => Objs.none W', fun W' _ => Kd.C_nil _ W'⟩
theorem LM.pc {Ws wr : World} {s : PS} {cs : Array Value} {bn k : Nat} {fs fn : Int → Bool} (h : LM Ws wr s cs bn k fs fn) : wr.cell? ⟨Ws.heap.size, 22, none⟩ = some (.int .i64 s.pc) := by
  obtain ⟨oA, hs, oc, tA, tc, e, _⟩ := h.is
  rw [cell_of_row _ _ 22 _ _ _ h.row, e]
  rfl
theorem LM.two {Ws wr D X Y : World} {s : PS} {cs : Array Value} {bn k k' a b : Nat} {fs fn fs' fn' : Int → Bool} (h : LM Ws wr s cs bn k fs fn) (hD : Below wr.heap.size wr D)
    (g1 : D.grownBy X (some a)) (g2 : X.grownBy Y (some b)) (ha : a = Ws.heap.size + 1 ∨ a = bn) (hb : b = Ws.heap.size + 1 ∨ b = bn) (hs : SetM Y (Ws.heap.size + 1) k' fs') (hn : SetM Y bn k' fn') : LM Ws Y s cs bn k' fs' fn' := by
  have hbn0 := h.bn0
  have hlt := (Array.getElem?_eq_some_iff.1 h.row).1
  have z0 := hD.size
  have z1 := g1.size
  have z2 := g2.size
  have z3 := h.below.size
  refine ⟨Below.grown (Below.grown (below_step h.below hD) g1 (by omega) (fun k e => by injection e; omega)) g2 (by omega) (fun k e => by injection e; omega), ?_, hs, hn, h.bn1, hbn0, ?_⟩
  · exact (g2.block _ (by omega) (fun e => by injection e; omega)).trans ((g1.block _ (by omega) (fun e => by injection e; omega)).trans ((hD.block _ hlt).trans h.row))
  · refine (h.is.step fun j hj hl => ⟨?_, by omega⟩).mono fun j hj => ⟨hj.1, hj.2.1, hj.2.2.1, by have := hj.2.2.2; omega⟩
    have h1 := hj.2.1
    have h2 := hj.2.2.1
    exact (g2.block _ (by omega) (fun e => by injection e; omega)).trans ((g1.block _ (by omega) (fun e => by injection e; omega)).trans (hD.block _ hl))
theorem LM.put {Ws wr wB : World} {s : PS} {cs : Array Value} {bn k : Nat} {fs fn : Int → Bool} (h : LM Ws wr s cs bn k fs fn) (hB : Below wr.heap.size wr wB) (hk : k < maxLen) {m : Int} (hm : (Lit.int .i64 m).wf = true) :
    ∃ wX wY wZ wV, (Instr.mapUpdate 35 (.map (some (Ws.heap.size + 1))) (.int .i64 m) (.bool true)).run Tryd.prog wB.drew = .ok () wX ∧ (Instr.mapUpdate 35 (.map (some bn)) (.int .i64 m) (.bool true)).run Tryd.prog wX = .ok () wY ∧
      (Instr.mapUpdate 35 (.map (some bn)) (.int .i64 m) (.bool true)).run Tryd.prog wB.drew = .ok () wZ ∧ (Instr.mapUpdate 35 (.map (some (Ws.heap.size + 1))) (.int .i64 m) (.bool true)).run Tryd.prog wZ = .ok () wV ∧
      wX.cell? ⟨Ws.heap.size, 22, none⟩ = some (.int .i64 s.pc) ∧ wZ.cell? ⟨Ws.heap.size, 22, none⟩ = some (.int .i64 s.pc) ∧ LM Ws wY s cs bn (k + 1) (fun x => x == m || fs x) (fun x => x == m || fn x) ∧ LM Ws wV s cs bn (k + 1) (fun x => x == m || fs x) (fun x => x == m || fn x) := by
  have hbn0 := h.bn0
  have hbn1 := h.bn1
  have hlt := (Array.getElem?_eq_some_iff.1 h.row).1
  have hD : Below wr.heap.size wr wB.drew := hB.drew
  have zD := hD.size
  have hsB := h.seen.move (hD.block _ h.seen.lt)
  have hnB := h.since.move (hD.block _ h.since.lt)
  obtain ⟨wX, e1, s1, g1⟩ := hsB.put hk hm
  obtain ⟨wY, e2, s2, g2⟩ := (hnB.kept g1 (fun e => hbn1 (Option.some.inj e))).put hk hm
  obtain ⟨wZ, e3, s3, g3⟩ := hnB.put hk hm
  obtain ⟨wV, e4, s4, g4⟩ := (hsB.kept g3 (fun e => hbn1 (Option.some.inj e).symm)).put hk hm
  refine ⟨wX, wY, wZ, wV, e1, e2, e3, e4, ?_, ?_, h.two hD g1 g2 (.inl rfl) (.inr rfl) (s1.kept g2 (fun e => hbn1 (Option.some.inj e).symm)) s2, h.two hD g3 g4 (.inr rfl) (.inl rfl) s4 (s3.kept g4 (fun e => hbn1 (Option.some.inj e)))⟩
  · exact (World.cell?_of_block (w := wr) (a := ⟨Ws.heap.size, 22, none⟩) ((g1.block _ (show Ws.heap.size < _ by omega) (fun e => by injection e; omega)).trans (hD.block _ hlt))).trans h.pc
  · exact (World.cell?_of_block (w := wr) (a := ⟨Ws.heap.size, 22, none⟩) ((g3.block _ (show Ws.heap.size < _ by omega) (fun e => by injection e; omega)).trans (hD.block _ hlt))).trans h.pc
theorem LM.next {Ws wU W w6 w8 : World} {s u : PS} {cs cs' : Array Value} {bn bn' k : Nat} {fs fn fn' : Int → Bool} (h : LM Ws wU s cs bn k fs fn) (hW : Below wU.heap.size wU W) (hb : Below W.heap.size W w6) (h8 : Below w6.heap.size w6 w8)
    (hn : SetM W bn' k fn') (hbn : bn' = bn ∨ wU.heap.size ≤ bn') (hu : IsS w6 (fun k => PW Ws wU bn k ∨ W.heap.size ≤ k) u cs') : LM Ws (w8.setRow Ws.heap.size cs') u cs' bn' k fs fn' := by
  have hbn0 := h.bn0
  have hbn1 := h.bn1
  have hlt := (Array.getElem?_eq_some_iff.1 h.row).1
  have hsl := h.seen.lt
  have hnl := hn.lt
  have zW := hW.size
  have z6 := hb.size
  have z8 := h8.size
  have hB8 := below_step hW (below_step hb h8)
  have h5 : Below W.heap.size W w8 := below_step hb h8
  refine ⟨below_row (below_step h.below hB8) (Nat.le_refl _), setRow_heap _ _ _ _ _ _ ((hB8.block _ hlt).trans h.row), h.seen.move ((setRow_other _ _ _ _ (by omega)).trans (hB8.block _ hsl)), hn.move ((setRow_other _ _ _ _ (by omega)).trans (h5.block _ hnl)), by omega, by omega, ?_⟩
  refine (hu.bound.step fun j hj hl => ⟨?_, ?_⟩).mono fun j hj => ?_
  · exact (setRow_other _ _ _ _ (by rcases hj.1 with hj | hj; exact hj.1; omega)).trans (h8.block _ hl)
  · simp [World.setRow]
    omega
  · have hj2 := hj.2
    refine ⟨?_, ?_, ?_, ?_⟩
    · rcases hj.1 with hj | hj
      · exact hj.1
      · omega
    · rcases hj.1 with hj | hj
      · exact hj.2.1
      · omega
    · rcases hj.1 with hj | hj
      · have := hj.2.2.1
        have := hj.2.2.2
        omega
      · omega
    · simp [World.setRow]
      omega
end Go.Proofs.YtkplgfhkebkaaaaDoor.ST
