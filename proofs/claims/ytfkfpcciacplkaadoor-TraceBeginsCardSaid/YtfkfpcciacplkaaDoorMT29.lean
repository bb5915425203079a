/- Texts of this claim, pruned to what it needs and laid together by prune.py. -/
import Derived.Test.YtfkfpcciacplkaaDoorMT24
namespace Go.Proofs.YtfkfpcciacplkaaDoor.TRW
open Go.RowKit Go.Proofs.YtfkfpcciacplkaaDoorW.PrintWords Go.Proofs.YtfkfpcciacplkaaDoorW.PrintLast Go.Proofs.YtfkfpcciacplkaaDoorW.PrintMore Go.Proofs.YtfkfpcciacplkaaDoor.Scan Go.Proofs.YtfkfpcciacplkaaDoor.F Go.Proofs.YtfkfpcciacplkaaDoor.T Go.Proofs.YtfkfpcciacplkaaDoor.ST0 Go.Proofs.YtfkfpcciacplkaaDoor.TRB Go.Proofs.YtfkfpcciacplkaaDoor.TRL Go.Proofs.YtfkfpcciacplkaaDoor.TRA Go.Proofs.YtfkfpcciacplkaaDoor.TRP Go.Proofs.YtfkfpcciacplkaaDoor.TRC Go.Proofs.YtfkfpcciacplkaaDoor.CR Go.Proofs.YtfkfpcciacplkaaDoor.TAL Go.Proofs.YtfkfpcciacplkaaDoor.DO1
set_option linter.unusedVariables false
set_option linter.unusedSimpArgs false
theorem own_slice' {W : World} {base n : Nat} {e : TypeId} {v : Value} {xs : List Int} (h : W.ownsRow base e 1 v n (nums .i64 xs)) : ∃ A c, v = .slice A n c := by
  obtain ⟨A, c, he, _⟩ := own_reads h
  exact ⟨A, c, he⟩
theorem beg_self_take (a : List Int) (j : Nat) : beg a (a.take j) = true := by
  unfold beg
  rw [decide_eq_true_iff, List.take_take, List.length_take]
  congr 1
  omega
theorem beg_more (x y : List Int) (n : Int) (h : y.length ≤ x.length) : beg (x ++ [n]) y = beg x y := by
  unfold beg
  rw [decide_eq_decide, List.take_append_of_le_length h, List.take_of_length_le (l := y) (by rw [List.length_append]; simp; omega), List.take_of_length_le (l := y) h]
set_option maxHeartbeats 8000000 in
set_option maxRecDepth 100000 in
theorem Begins_walk (w : World) (A1 : Option Addr) (c1 : Nat) (a : List Int) (h1 : Kd.C (Kd.int .i64) w A1 a.length a) (hc1 : a.length ≤ c1) (A2 : Option Addr) (c2 : Nat) (b : List Int) (h2 : Kd.C (Kd.int .i64) w A2 b.length b) (hc2 : b.length ≤ c2) (nn : Int) (n0 : 0 ≤ nn) (n1 : nn ≤ 255) (hot : OT w) :
    Calls Tryd.prog 5 #[.slice A1 a.length c1, .slice A2 b.length c2, .int .u8 nn] w fun e w' => e = .returned (.bool true) ∧ Below w.heap.size w w' := by
  have ALV := Aside0.mk (fun W (hW : Below w.heap.size w W) => alive_c W (OT_below hot hW))
  have BAB := Aside0.mk (fun W (hW : Below w.heap.size w W) => Beg_c W A1 c1 a A2 c2 b (Kd.C_below h1 hW) hc1 (Kd.C_below h2 hW) hc2)
  have BBA := Aside0.mk (fun W (hW : Below w.heap.size w W) => by
    have := Beg_c W A2 c2 b A1 c1 a (Kd.C_below h2 hW) hc2 (Kd.C_below h1 hW) hc1
    rw [beg_symm] at this
    exact this)
  have Ha := Aside0.mk h1
  have Hb := Aside0.mk h2
  have HW := Aside0.mk (Below.refl w.heap.size w)
  clear hot
  by_cases hg : ¬ (a.length : Int) > 60 ∧ ¬ (b.length : Int) > 60
  · obtain ⟨ha, hb⟩ := hg
    have ha' : decide ((a.length : Int) > 60) = false := decide_eq_false ha
    have hb' : decide ((b.length : Int) > 60) = false := decide_eq_false hb
    obtain ⟨j, hj⟩ := Int.eq_ofNat_of_zero_le (Int.emod_nonneg nn (show (a.length : Int) + 1 ≠ 0 by omega))
    have hjl : (j : Int) < (a.length : Int) + 1 := by rw [← hj]; exact Int.emod_lt_of_pos nn (by omega)
    have hj' : nn.tmod ((a.length : Int) + 1) = j := by rw [Int.tmod_eq_emod_of_nonneg n0]; exact hj
    obtain ⟨i0, hi0, _, hz, _⟩ := info_parts inf64
    obtain ⟨hcut, hA, hC⟩ := print_take_of (P := Tryd.prog) (Value.int .i64) 0 23 2 .i64 Tryd.underlying23 hi0 hz A1 c1 a (j : Int) (by omega) (by omega) hc1
    have tl : (a.take j).length = j := by rw [List.length_take]; omega
    rw [Int.toNat_natCast, tl] at hcut
    rw [Int.toNat_natCast] at hA hC
    have BAJ := Aside0.mk (fun W (hW : Below w.heap.size w W) => by
      have := Beg_c W A1 c1 a A1 c1 (a.take j) (Kd.C_below h1 hW) hc1 (Kd.C_of_reads (h1 := fun _ => rfl) (hA _ (Kd.reads_of_C (Kd.C_below h1 hW)))) hC
      rw [tl, beg_self_take] at this
      exact this)
    have hjn : (0 : Int) ≤ j := by omega
    clear hA hC tl h1 h2
    by_cases hlt : (a.length : Int) < (b.length : Int)
    · have BXY := Aside0.mk (show ∀ (W : World) (G : Option Addr) (n : Nat), Below w.heap.size w W → W.ownsRow w.heap.size 2 1 (.slice G (b.length + 1) n) (b.length + 1) (nums .i64 (b ++ [nn])) → Calls Tryd.prog 20 #[.slice G (b.length + 1) n, .slice A1 a.length c1] W fun e w' => e = .returned (.bool (beg a b)) ∧ Below W.heap.size W w' from fun W G n hW hq => by
        have el : (b ++ [nn]).length = b.length + 1 := by simp
        rw [← el] at hq ⊢
        have := Beg_c W G n (b ++ [nn]) A1 c1 a (Kd.C_of_reads (h1 := fun _ => rfl) (own_reads' hq)) (ST0.own_le hq) (Kd.C_below Ha.out hW) hc1
        rw [show beg (b ++ [nn]) a = beg a b by rw [beg_more b a nn (by omega), beg_symm]] at this
        exact this)
      go_enter Tryd.func5, Tryd.ntmps5
      go_wp2_with (first
        | (go_at_call 12; (with_reducible refine (ALV.out _ HW.out).mono ?_); rintro e w1 ⟨rfl, hb1⟩; have HW := Aside0.mk (below_step HW.out hb1); clear hb1)
        | (go_at_call 20; (with_reducible refine (BAB.out _ HW.out).mono ?_); rintro e w1 ⟨rfl, hb1⟩; have HW := Aside0.mk (below_step HW.out hb1); clear hb1)
        | (go_at_call 20; (with_reducible refine (BBA.out _ HW.out).mono ?_); rintro e w1 ⟨rfl, hb1⟩; have HW := Aside0.mk (below_step HW.out hb1); clear hb1)
        | (go_at_call 20; (with_reducible refine (BAJ.out _ HW.out).mono ?_); rintro e w1 ⟨rfl, hb1⟩; have HW := Aside0.mk (below_step HW.out hb1); clear hb1)
        | (at_builtin; (refine print_append_row w.heap.size rfl (.const (.slice none 0 0)) _ 23 2 .i64 8 rfl Tryd.underlying23 inf64 (by decide) (.slice none 0 0) [] b A2 b.length c2 rfl rfl (own_nil _ _ _ _) (Kd.reads_of_C (d := 0) (Kd.C_below Hb.out HW.out)) HW.out (below_size HW.out) (by simp; omega) ?_); intro v1 w2 hown hb2 hg2 hat2; rw [List.nil_append] at hown; obtain ⟨G1, n1, rfl⟩ := own_slice' hown; have HO := Aside0.mk hown; have HW := Aside0.mk hb2; clear hown hb2 hg2 hat2)
        | (at_builtin; (refine print_append_num w.heap.size rfl _ _ 23 2 .i64 8 rfl Tryd.underlying23 inf64 (by decide) (.slice G1 b.length n1) b nn rfl rfl HO.out HW.out (below_size HW.out) (by omega) ?_); intro v1 w2 hown hb2 hg2 hat2; rw [List.length_append, List.length_singleton] at hown; obtain ⟨G2, n2, rfl⟩ := own_slice' hown; have HQ := Aside0.mk hown; have HW := Aside0.mk hb2; clear hown hb2 hg2 hat2)
        | (go_at_call 20; (with_reducible refine (BXY.out _ _ _ HW.out HQ.out).mono ?_); rintro e w1 ⟨rfl, hb1⟩; have HW := Aside0.mk (below_step HW.out hb1); clear hb1))
      go_ret
      exact ⟨by simp, HW.out⟩
    · have BXY := Aside0.mk (show ∀ (W : World) (G : Option Addr) (n : Nat), Below w.heap.size w W → W.ownsRow w.heap.size 2 1 (.slice G (a.length + 1) n) (a.length + 1) (nums .i64 (a ++ [nn])) → Calls Tryd.prog 20 #[.slice G (a.length + 1) n, .slice A2 b.length c2] W fun e w' => e = .returned (.bool (beg a b)) ∧ Below W.heap.size W w' from fun W G n hW hq => by
        have el : (a ++ [nn]).length = a.length + 1 := by simp
        rw [← el] at hq ⊢
        have := Beg_c W G n (a ++ [nn]) A2 c2 b (Kd.C_of_reads (h1 := fun _ => rfl) (own_reads' hq)) (ST0.own_le hq) (Kd.C_below Hb.out hW) hc2
        rw [show beg (a ++ [nn]) b = beg a b by rw [beg_more a b nn (by omega)]] at this
        exact this)
      go_enter Tryd.func5, Tryd.ntmps5
      go_wp2_with (first
        | (go_at_call 12; (with_reducible refine (ALV.out _ HW.out).mono ?_); rintro e w1 ⟨rfl, hb1⟩; have HW := Aside0.mk (below_step HW.out hb1); clear hb1)
        | (go_at_call 20; (with_reducible refine (BAB.out _ HW.out).mono ?_); rintro e w1 ⟨rfl, hb1⟩; have HW := Aside0.mk (below_step HW.out hb1); clear hb1)
        | (go_at_call 20; (with_reducible refine (BBA.out _ HW.out).mono ?_); rintro e w1 ⟨rfl, hb1⟩; have HW := Aside0.mk (below_step HW.out hb1); clear hb1)
        | (go_at_call 20; (with_reducible refine (BAJ.out _ HW.out).mono ?_); rintro e w1 ⟨rfl, hb1⟩; have HW := Aside0.mk (below_step HW.out hb1); clear hb1)
        | (at_builtin; (refine print_append_row w.heap.size rfl (.const (.slice none 0 0)) _ 23 2 .i64 8 rfl Tryd.underlying23 inf64 (by decide) (.slice none 0 0) [] a A1 a.length c1 rfl rfl (own_nil _ _ _ _) (Kd.reads_of_C (d := 0) (Kd.C_below Ha.out HW.out)) HW.out (below_size HW.out) (by simp; omega) ?_); intro v1 w2 hown hb2 hg2 hat2; rw [List.nil_append] at hown; obtain ⟨G1, n1, rfl⟩ := own_slice' hown; have HO := Aside0.mk hown; have HW := Aside0.mk hb2; clear hown hb2 hg2 hat2)
        | (at_builtin; (refine print_append_num w.heap.size rfl _ _ 23 2 .i64 8 rfl Tryd.underlying23 inf64 (by decide) (.slice G1 a.length n1) a nn rfl rfl HO.out HW.out (below_size HW.out) (by omega) ?_); intro v1 w2 hown hb2 hg2 hat2; rw [List.length_append, List.length_singleton] at hown; obtain ⟨G2, n2, rfl⟩ := own_slice' hown; have HQ := Aside0.mk hown; have HW := Aside0.mk hb2; clear hown hb2 hg2 hat2)
        | (go_at_call 20; (with_reducible refine (BXY.out _ _ _ HW.out HQ.out).mono ?_); rintro e w1 ⟨rfl, hb1⟩; have HW := Aside0.mk (below_step HW.out hb1); clear hb1))
      go_ret
      exact ⟨by simp, HW.out⟩
  · obtain ha | ⟨ha, hb⟩ : (a.length : Int) > 60 ∨ (¬ (a.length : Int) > 60 ∧ (b.length : Int) > 60) := by omega
    all_goals
      clear hg
      go_enter Tryd.func5, Tryd.ntmps5
      go_wp2_with (go_at_call 12; (with_reducible refine (ALV.out _ HW.out).mono ?_); rintro e w1 ⟨rfl, hb1⟩; have HW := Aside0.mk (below_step HW.out hb1); clear hb1)
      go_ret
      exact ⟨rfl, HW.out⟩
end Go.Proofs.YtfkfpcciacplkaaDoor.TRW
