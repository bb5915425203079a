/- Texts of this claim, pruned to what it needs and laid together by prune.py. -/
import Derived.Test.YtkplgfhkebkaaaaDoorMD1
import Derived.SliceStrings
import Derived.ProofKit
import Derived.OpenShut
import Derived.ShutString
import Derived.ChangeOld
import Derived.SizedLaws
import Derived.Test.YtkplgfhkebkaaaaDoorMD28
import Derived.ChangeArms
namespace Go.Proofs.YtkplgfhkebkaaaaDoor.Rw
open Go.RowKit Go.Proofs.YtkplgfhkebkaaaaDoorW.PrintWords
def IsStrs (w : World) (a : Option Addr) (len cap : Nat) (zs : List ByteArray) : Prop :=
  (a = none ∧ len = 0 ∧ cap = 0 ∧ zs = []) ∨
  ∃ x, a = some x ∧ len ≤ cap ∧ cap ≤ maxLen ∧ zs.length = cap ∧ (∀ i, i < zs.length → w.cell? (x.add i) = some (.string (zs.getD i ByteArray.empty))) ∧ ∀ s ∈ zs, s.size ≤ maxLen
theorem strs_C {w : World} {a : Option Addr} {len cap : Nat} {zs : List ByteArray} (h : IsStrs w a len cap zs) :
    ∃ l0 : List ByteArray, len = l0.length ∧ l0.length ≤ cap ∧ Kd.C Kd.string w a l0.length l0 ∧ ∀ s ∈ l0, (s.size : Int) ≤ 9223372036854775807 := by
  rcases h with ⟨rfl, rfl, rfl, rfl⟩ | ⟨x, rfl, hl, hm, hz, hc, hs⟩
  · exact ⟨[], rfl, Nat.le_refl _, Kd.C_nil _ _, fun s hs => by cases hs⟩
  · have hlen : (zs.take len).length = len := by rw [List.length_take]; omega
    refine ⟨zs.take len, hlen.symm, by omega, Kd.C_of_reads (d := ByteArray.empty) ⟨rfl, ?_, fun _ => ⟨x, rfl, fun j hj => ?_⟩⟩, fun s h => ?_⟩
    · rw [hlen]; unfold maxLen at hm; omega
    · rw [hlen] at hj
      rw [hc j (by omega)]
      congr 2
      rw [List.getD_eq_getElem?_getD, List.getD_eq_getElem?_getD, List.getElem?_take, if_pos hj]
    · have := hs s (List.mem_of_mem_take h)
      unfold maxLen at this
      omega
end Go.Proofs.YtkplgfhkebkaaaaDoor.Rw

namespace Go.Proofs.YtkplgfhkebkaaaaDoor.Rw
open Go.ChangeShapes Go.ChangeAt Go.RowKit Go.WideShapes Go.Proofs.YtkplgfhkebkaaaaDoorW.PrintWords Go.Proofs.YtkplgfhkebkaaaaDoor.F Go.Proofs.YtkplgfhkebkaaaaDoor.TT
theorem wf_u8 {n : Int} (h : (Lit.int .u8 n).wf = true) : 0 ≤ n ∧ n ≤ 255 := by
  simp [Lit.wf, IntKind.min, IntKind.max, IntKind.signed, IntKind.bits] at h
  omega
theorem wf_i64 {n : Int} (h : (Lit.int .i64 n).wf = true) : -9223372036854775808 ≤ n ∧ n ≤ 9223372036854775807 := by
  simp [Lit.wf, IntKind.min, IntKind.max, IntKind.signed, IntKind.bits] at h
  omega
theorem add_add (a : Addr) (i j : Nat) : (a.add i).add j = a.add (i + j) := by
  unfold Addr.add
  by_cases h1 : i = 0 <;> by_cases h2 : j = 0 <;> simp [h1, h2, Nat.add_assoc]
section
variable {H : Type} {enc : TypeId × Value → H} {W : World} {held : Bool} {sp : Nat → Bool}
set_option maxRecDepth 100000 in
theorem ins_at {fuel : Nat} {cs : List Value} {x : DataW H × List MemPlace} (h : DataW.trod enc Tryd.prog W 0 sp held fuel 47 cs = some x) :
    ∃ s : S47, cs = [.int .u8 s.f0, .int .u8 s.f1, .int .u8 s.f2, .int .u8 s.f3, .int .i64 s.f4] ∧ WfI s.f0 s.f1 s.f2 s.f3 s.f4 := by
  obtain ⟨xs, n, _, _, hl, hxl, hf⟩ := DataW.trod_struct Tryd.underlying47 h
  have hc5 : Tryd.prog.cellsOf 47 = 5 := by kernel_rfl
  have c1 : Tryd.prog.cellsOf 5 = 1 := by kernel_rfl
  have c2 : Tryd.prog.cellsOf 2 = 1 := by kernel_rfl
  rw [hc5] at hl
  match cs, hl with
  | [a, b, c, d, e], _ =>
    match xs, hxl with
    | [x0, x1, x2, x3, x4], _ =>
      obtain ⟨n0, e0, _, w0⟩ := DataW.trod_int Tryd.underlying5 (hf 0 _ rfl)
      obtain ⟨n1, e1, _, w1⟩ := DataW.trod_int Tryd.underlying5 (hf 1 _ rfl)
      obtain ⟨n2, e2, _, w2⟩ := DataW.trod_int Tryd.underlying5 (hf 2 _ rfl)
      obtain ⟨n3, e3, _, w3⟩ := DataW.trod_int Tryd.underlying5 (hf 3 _ rfl)
      obtain ⟨n4, e4, _, w4⟩ := DataW.trod_int Tryd.underlying2 (hf 4 _ rfl)
      have e0' : a = .int .u8 n0 := by simpa [c1, c2] using e0
      have e1' : b = .int .u8 n1 := by simpa [c1, c2] using e1
      have e2' : c = .int .u8 n2 := by simpa [c1, c2] using e2
      have e3' : d = .int .u8 n3 := by simpa [c1, c2] using e3
      have e4' : e = .int .i64 n4 := by simpa [c1, c2] using e4
      exact ⟨⟨n0, n1, n2, n3, n4⟩, by rw [e0', e1', e2', e3', e4'], wf_u8 w0, wf_u8 w1, wf_u8 w2, wf_u8 w3, wf_i64 w4⟩
set_option maxRecDepth 100000 in
theorem ins_row {fuel : Nat} {v : Value} {x : DataW H × List MemPlace} (h : DataW.trod enc Tryd.prog W 0 sp held fuel 23 [v] = some x) :
    ∃ (A : Option Addr) (c : Nat) (code : List S47), v = .slice A code.length c ∧ code.length ≤ c ∧ Kd.C k47 W A code.length code ∧ WfC code := by
  have hc5 : Tryd.prog.cellsOf 47 = 5 := by kernel_rfl
  rcases DataW.trod_slice Tryd.underlying23 h with ⟨h0, _⟩ | ⟨a, len, cap, elems, rest, n, _, h0, _, hb, hl, hm, hlen, hel, _, _⟩
  · injection h0 with h0
    exact ⟨none, 0, [], h0, Nat.le_refl _, Kd.C_nil _ _, fun x hx => by cases hx⟩
  · injection h0 with h0
    have each : ∀ i, ∃ s : S47, i < len → (∀ j u, ([.int .u8 s.f0, .int .u8 s.f1, .int .u8 s.f2, .int .u8 s.f3, .int .i64 s.f4] : List Value)[j]? = some u → W.cell? (a.add (i * 5 + j)) = some u) ∧ WfI s.f0 s.f1 s.f2 s.f3 s.f4 := by
      intro i
      by_cases hi : i < len
      · have h1 := hel i hi
        rw [List.getElem?_eq_getElem (by omega), hc5, Option.bind_eq_some_iff] at h1
        obtain ⟨cs, h2, h3⟩ := h1
        obtain ⟨s, rfl, hw⟩ := ins_at h3
        obtain ⟨_, _, h4⟩ := World.cells?_some h2
        refine ⟨s, fun _ => ⟨fun j u hu => ?_, hw⟩⟩
        have hj : j < 5 := by
          have := (List.getElem?_eq_some_iff.1 hu).1
          simpa using this
        have h5 := h4 j hj
        rw [hu] at h5
        rw [← h5]
        rw [add_add]
      · exact ⟨z47, fun h => absurd h hi⟩
    obtain ⟨f, hf⟩ := Classical.axiomOfChoice each
    have hlm : ((List.range len).map f).length = len := by simp
    refine ⟨some a, cap, (List.range len).map f, by rw [hlm]; exact h0, by rw [hlm]; exact hl, ?_, fun s hs => ?_⟩
    · rw [hlm]
      refine ⟨hlm, by unfold maxLen at hm; omega, fun _ => ⟨a, rfl, fun j p hp => ?_⟩⟩
      rw [List.getElem?_map] at hp
      by_cases hj : j < len
      · rw [List.getElem?_range hj] at hp
        obtain rfl := Option.some.inj hp
        exact ⟨_, rfl, k47_mk W (f j), fun i u hu => ((hf j) hj).1 i u hu⟩
      · rw [List.getElem?_eq_none (by simpa using hj)] at hp
        cases hp
    · obtain ⟨j, hj, rfl⟩ := List.mem_map.1 hs
      exact ((hf j) (List.mem_range.1 hj)).2
set_option maxRecDepth 100000 in
theorem open_prog {r : Reach} {b0 : Nat} {v : Value} {d : DataW H} {ps : List MemPlace} (hval : Value.okWide Tryd.prog W r b0 25 v) (hd : DataW.Trod enc Tryd.prog W 0 (fun _ => true) held 25 v d ps) :
    ∃ (A0 : Option Addr) (c0 : Nat) (ts : List ByteArray) (la gl : ByteArray) (A3 : Option Addr) (c3 : Nat) (code : List S47),
      v = .agg #[.slice A0 ts.length c0, .string la, .string gl, .slice A3 code.length c3] ∧ ts.length ≤ c0 ∧ Kd.C Kd.string W A0 ts.length ts ∧ (∀ s ∈ ts, (s.size : Int) ≤ 9223372036854775807) ∧
      Fit la ∧ Fit gl ∧ code.length ≤ c3 ∧ Kd.C k47 W A3 code.length code ∧ WfC code := by
  obtain ⟨cs, rfl, hn⟩ := okWide_struct Tryd.underlying25 hval
  have hc4 : Tryd.prog.cellsOf 25 = 4 := by kernel_rfl
  have c1 : Tryd.prog.cellsOf 9 = 1 := by kernel_rfl
  have c2 : Tryd.prog.cellsOf 22 = 1 := by kernel_rfl
  have c3' : Tryd.prog.cellsOf 23 = 1 := by kernel_rfl
  rw [hc4] at hn
  obtain ⟨fuel, hf⟩ := hd
  obtain ⟨xs, n, _, _, _, hxl, hfl⟩ := DataW.trod_struct Tryd.underlying25 hf
  obtain ⟨l⟩ := cs
  match l, hn with
  | [a, b, c, e], _ =>
    match xs, hxl with
    | [x0, x1, x2, x3], _ =>
      have f0 : DataW.trod enc Tryd.prog W 0 (fun _ => true) held n 22 [a] = some x0 := by simpa [c2, Value.cells] using hfl 0 _ rfl
      have f1 : DataW.trod enc Tryd.prog W 0 (fun _ => true) held n 9 [b] = some x1 := by simpa [c1, Value.cells] using hfl 1 _ rfl
      have f2 : DataW.trod enc Tryd.prog W 0 (fun _ => true) held n 9 [c] = some x2 := by simpa [c1, Value.cells] using hfl 2 _ rfl
      have f3 : DataW.trod enc Tryd.prog W 0 (fun _ => true) held n 23 [e] = some x3 := by simpa [c3', Value.cells] using hfl 3 _ rfl
      obtain ⟨s1, e1, _, w1⟩ := DataW.trod_string Tryd.underlying9 f1
      obtain ⟨s2, e2, _, w2⟩ := DataW.trod_string Tryd.underlying9 f2
      obtain ⟨A3, c3, code, e3, hc3, hC3, hw⟩ := ins_row f3
      injection e1 with e1
      injection e2 with e2
      have hS : ∃ A len cap zs, a = .slice A len cap ∧ IsStrs W A len cap zs := by
        rcases open_strings Tryd.underlying22 Tryd.underlying9 c1 f0 with ⟨hcs, _⟩ | ⟨x, l, c, zs, hcs, _, hl, hm, hz, _, hcell, hwz⟩
        · injection hcs with hcs
          exact ⟨none, 0, 0, [], hcs, .inl ⟨rfl, rfl, rfl, rfl⟩⟩
        · injection hcs with hcs
          exact ⟨some x, l, c, zs, hcs, .inr ⟨x, rfl, hl, hm, by simpa using hz, hcell, hwz⟩⟩
      obtain ⟨A0, len0, cap0, zs, e0, hz⟩ := hS
      obtain ⟨ts, rfl, hc0, hC0, hS0⟩ := strs_C hz
      subst e0 e1 e2 e3
      unfold maxLen at w1 w2
      exact ⟨A0, cap0, ts, s1, s2, A3, c3, code, rfl, hc0, hC0, hS0, by unfold Fit; omega, by unfold Fit; omega, hc3, hC3, hw⟩
end
end Go.Proofs.YtkplgfhkebkaaaaDoor.Rw
