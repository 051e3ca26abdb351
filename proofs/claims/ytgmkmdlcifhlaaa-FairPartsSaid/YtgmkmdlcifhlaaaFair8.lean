/- Plain: windows of Round and Lean, and of a script beside another (P25.3). -/
import Derived.Test.YtgmkmdlcifhlaaaFair4
namespace Go.Proofs.Ytgmkmdlcifhlaaa.Fair
open Go.RowKit Go.Proofs.YtgmkmdlcifhlaaaW.PrintWords Go.Proofs.YtgmkmdlcifhlaaaW.PrintLast Go.Proofs.YtgmkmdlcifhlaaaW.PrintMore PFairAll

/-- So many picks of each, one behind the other. -/
def cyc (w k n : Nat) : List Int := (List.range n).map fun i => ((i / k % w : Nat) : Int)
theorem cyc_len (w k n : Nat) : (cyc w k n).length = n := by simp [cyc]
theorem cyc_rd (w k n i : Nat) (h : i < n) : rd (cyc w k n) i = ((i / k % w : Nat) : Int) := by
  simp [cyc, rd, List.getD_eq_getElem?_getD, h]

theorem cyc_good (w k r : Nat) (hw : 1 ≤ w) (hk : 1 ≤ k) : Good w (cyc w k (w * k * r)) ((w - 1) * k + 1) := by
  intro i hi v hv
  rw [cyc_len] at hi
  obtain ⟨q, hq⟩ : ∃ q, i / k = q := ⟨_, rfl⟩
  have hm : i = k * q + i % k := by rw [← hq]; exact (Nat.div_add_mod i k).symm
  have hlt : i % k < k := Nat.mod_lt _ (by omega)
  -- the block with the worker
  obtain ⟨t, ht, hqt⟩ : ∃ t, t < w ∧ (q + t) % w = v := by
    refine ⟨(v + w - q % w) % w, Nat.mod_lt _ (by omega), ?_⟩
    have h1 : q % w < w := Nat.mod_lt _ (by omega)
    rw [Nat.add_mod, Nat.mod_mod, ← Nat.add_mod]
    have h2 : q = w * (q / w) + q % w := (Nat.div_add_mod q w).symm
    have h3 : q + (v + w - q % w) = v + w * (q / w + 1) := by rw [Nat.mul_add]; omega
    rw [h3, Nat.add_mul_mod_self_left, Nat.mod_eq_of_lt hv]
  have hbd : k * t ≤ k * (w - 1) := Nat.mul_le_mul_left k (by omega)
  have hcm : (w - 1) * k = k * (w - 1) := Nat.mul_comm _ _
  by_cases h0 : t = 0
  · refine ⟨i, by omega, by omega, ?_⟩
    rw [cyc_rd _ _ _ _ (by omega), hq, ← hqt, h0]
    rfl
  · refine ⟨k * (q + t), ?_, ?_, ?_⟩
    · have : k * (q + t) = k * q + k * t := Nat.mul_add _ _ _
      have : k * 1 ≤ k * t := Nat.mul_le_mul_left k (by omega)
      omega
    · have : k * (q + t) = k * q + k * t := Nat.mul_add _ _ _
      omega
    · have h5 : k * (q + t) = k * q + k * t := Nat.mul_add _ _ _
      rw [cyc_rd _ _ _ _ (by omega), Nat.mul_div_cancel_left _ (by omega), hqt]
theorem cyc_bad (w k r F : Nat) (hw : 1 ≤ w) (hk : 1 ≤ k) (hr : 1 ≤ r) (hF : 1 ≤ F) (h : F ≤ (w - 1) * k) : ¬ Good w (cyc w k (w * k * r)) F := by
  intro hg
  have h1 : (w - 1) * k + k = w * k := by rw [← Nat.succ_mul, Nat.succ_eq_add_one, Nat.sub_add_cancel hw]
  have h2 : w * k * 1 ≤ w * k * r := Nat.mul_le_mul_left _ hr
  obtain ⟨j, h3, h4, h5⟩ := hg k (by rw [cyc_len]; omega) 0 (by omega)
  rw [cyc_rd _ _ _ _ (by omega)] at h5
  have h6 : 1 ≤ j / k := (Nat.le_div_iff_mul_le (by omega)).2 (by omega)
  have h7 : j / k < w := (Nat.div_lt_iff_lt_mul (by omega)).2 (by omega)
  rw [Nat.mod_eq_of_lt h7] at h5
  omega
theorem cyc_win (w k r : Nat) (hw : 1 ≤ w) (hk : 1 ≤ k) (hr : 1 ≤ r) : winP w (cyc w k (w * k * r)) = (((w - 1) * k + 1 : Nat) : Int) := by
  refine isWin_unique (winP_is _ _) (.inr ⟨by omega, _, rfl, by omega, ?_, ?_, ?_⟩)
  · rw [cyc_len]
    have h1 : (w - 1) * k + k = w * k := by rw [← Nat.succ_mul, Nat.succ_eq_add_one, Nat.sub_add_cancel hw]
    have h2 : w * k * 1 ≤ w * k * r := Nat.mul_le_mul_left _ hr
    omega
  · exact cyc_good w k r hw hk
  · intro F hF hlt
    exact cyc_bad w k r F hw hk hr hF (by omega)
theorem cyc_more (w k n : Nat) (hw : 1 ≤ w) : winP ((w : Int) + 1) (cyc w k n) = 0 := by
  refine isWin_unique (winP_is _ _) (.inl ⟨rfl, .inr fun F hF hle hg => ?_⟩)
  rw [cyc_len] at hle
  obtain ⟨j, _, h2, h3⟩ := hg 0 (by rw [cyc_len]; omega) w (by omega)
  rw [cyc_rd _ _ _ _ (by omega)] at h3
  have := Nat.mod_lt (j / k) (show 0 < w by omega)
  omega

/-- One pick turned: one is forgotten. -/
theorem turned (w r i : Nat) (hw : 2 ≤ w) (hr : 1 ≤ r) (hi : i < w * r) : winP w ((cyc w 1 (w * r)).set i (((i % w + 1) % w : Nat) : Int)) > w ∨ winP w ((cyc w 1 (w * r)).set i (((i % w + 1) % w : Nat) : Int)) = 0 := by
  have hlen : ((cyc w 1 (w * r)).set i (((i % w + 1) % w : Nat) : Int)).length = w * r := by rw [List.length_set, cyc_len]
  have hrd : ∀ j, j < w * r → rd ((cyc w 1 (w * r)).set i (((i % w + 1) % w : Nat) : Int)) j = if j = i then (((i % w + 1) % w : Nat) : Int) else ((j % w : Nat) : Int) := by
    intro j hj
    have hj' : j < (cyc w 1 (w * r)).length := by rw [cyc_len]; exact hj
    simp only [rd, List.getD_eq_getElem?_getD, Int.toNat_natCast, List.getElem?_set]
    by_cases h : j = i
    · subst h
      simp [hj']
    · rw [if_neg (Ne.symm h), if_neg h]
      have := cyc_rd w 1 (w * r) j hj
      simpa [rd, List.getD_eq_getElem?_getD] using this
  rcases winP_is w ((cyc w 1 (w * r)).set i (((i % w + 1) % w : Nat) : Int)) with ⟨h, _⟩ | ⟨_, F, hF, h1, h2, hg, _⟩
  · exact .inr h
  · refine .inl ?_
    rcases Nat.lt_or_ge w F with h3 | h3
    · rw [hF]; omega
    · exfalso
      simp only [Int.toNat_natCast] at hg
      have h4 := good_le _ _ _ hg h2
      obtain rfl : F = w := by omega
      have hmul : F * 1 ≤ F * r := Nat.mul_le_mul_left _ hr
      obtain ⟨s, hs1, hs2, hs3⟩ : ∃ s, s ≤ i ∧ i < s + F ∧ s + F ≤ F * r := by
        rcases Nat.lt_or_ge (i + F) (F * r) with h5 | h5
        · exact ⟨i, by omega, by omega, by omega⟩
        · exact ⟨F * r - F, by omega, by omega, by omega⟩
      obtain ⟨j, h5, h6, h7⟩ := hg s (by rw [hlen]; exact hs3) (i % F) (Nat.mod_lt _ (by omega))
      rw [hrd j (by omega)] at h7
      have hlt : i % F < F := Nat.mod_lt _ (by omega)
      by_cases h8 : j = i
      · rw [if_pos h8] at h7
        rcases Nat.lt_or_ge (i % F + 1) F with h9 | h9
        · rw [Nat.mod_eq_of_lt h9] at h7
          omega
        · obtain h10 : i % F + 1 = F := by omega
          rw [h10, Nat.mod_self] at h7
          omega
      · rw [if_neg h8] at h7
        have h9 : j % F = i % F := by omega
        have h10 := Nat.div_add_mod j F
        have h11 := Nat.div_add_mod i F
        rcases Nat.lt_trichotomy (j / F) (i / F) with h12 | h12 | h12
        · have : F * (j / F + 1) ≤ F * (i / F) := Nat.mul_le_mul_left F h12
          rw [Nat.mul_add] at this
          omega
        · rw [h12] at h10
          omega
        · have : F * (i / F + 1) ≤ F * (j / F) := Nat.mul_le_mul_left F h12
          rw [Nat.mul_add] at this
          omega

/-- One worker alone. -/
theorem alone_win (l : List Int) (h : ∀ x ∈ l, x = 0) : winP 1 l = mn l.length 1 := by
  cases l with
  | nil => decide
  | cons x l =>
    refine isWin_unique (winP_is _ _) (.inr ⟨by omega, 1, ?_, by omega, by simp, ?_, fun F h1 h2 => by omega⟩)
    · simp only [mn, List.length_cons]
      split <;> omega
    · intro i hi w hw
      refine ⟨i, by omega, by omega, ?_⟩
      obtain rfl : w = 0 := by omega
      have hi' : i < (x :: l).length := by omega
      have := h _ (List.getElem_mem hi')
      simp [rd, List.getD_eq_getElem?_getD, List.getElem?_eq_getElem hi', this]

theorem rd_left (x y : List Int) (j : Nat) (h : j < x.length) : rd (x ++ y) j = rd x j := by
  simp [rd, List.getD_eq_getElem?_getD, List.getElem?_append_left h]
theorem rd_right (x y : List Int) (j : Nat) : rd (x ++ y) ((x.length + j : Nat) : Int) = rd y j := by
  have h1 : (((x.length + j : Nat) : Int)).toNat = x.length + j := by omega
  unfold rd
  rw [h1, List.getD_eq_getElem?_getD, List.getElem?_append_right (by omega)]
  simp [List.getD_eq_getElem?_getD]
theorem good_left (W : Nat) (x y : List Int) (F : Nat) (h : Good W (x ++ y) F) : Good W x F := by
  intro i hi w hw
  obtain ⟨j, h1, h2, h3⟩ := h i (by rw [List.length_append]; omega) w hw
  rw [rd_left _ _ _ (by omega)] at h3
  exact ⟨j, h1, h2, h3⟩
theorem good_right (W : Nat) (x y : List Int) (F : Nat) (h : Good W (x ++ y) F) : Good W y F := by
  intro i hi w hw
  obtain ⟨j, h1, h2, h3⟩ := h (x.length + i) (by rw [List.length_append]; omega) w hw
  obtain ⟨k, rfl⟩ : ∃ k, j = x.length + k := ⟨j - x.length, by omega⟩
  rw [rd_right] at h3
  exact ⟨k, by omega, by omega, h3⟩
theorem good_both (W : Nat) (x y : List Int) (p q : Nat) (hx : Good W x p) (hp : p ≤ x.length) (hy : Good W y q) (hq : q ≤ y.length) : Good W (x ++ y) (p + q) := by
  intro i hi w hw
  rw [List.length_append] at hi
  rcases Nat.lt_or_ge x.length (i + p) with h | h
  · -- the window begins with fewer than p of x: q of y stand in it
    obtain ⟨j, h1, h2, h3⟩ := hy (i - x.length) (by omega) w hw
    refine ⟨x.length + j, by omega, ?_, by rw [rd_right]; exact h3⟩
    omega
  · obtain ⟨j, h1, h2, h3⟩ := hx i h w hw
    exact ⟨j, h1, by omega, by rw [rd_left _ _ _ (by omega)]; exact h3⟩

theorem win_parts (W : Nat) (x y : List Int) (hp : winP W x ≠ 0) (hq : winP W y ≠ 0) : winP W x ≤ winP W (x ++ y) ∧ winP W y ≤ winP W (x ++ y) ∧ winP W (x ++ y) ≤ winP W x + winP W y := by
  rcases winP_is W x with ⟨h, _⟩ | ⟨hw, p, ep, p1, p2, pg, pm⟩
  · exact absurd h hp
  rcases winP_is W y with ⟨h, _⟩ | ⟨_, q, eq, q1, q2, qg, qm⟩
  · exact absurd h hq
  simp only [Int.toNat_natCast] at pg pm qg qm
  have hb := good_both W x y p q pg p2 qg q2
  rcases winP_is W (x ++ y) with ⟨_, h⟩ | ⟨_, F, ef, f1, f2, fg, fm⟩
  · simp only [Int.toNat_natCast] at h
    rcases h with h | h
    · omega
    · exact absurd hb (h (p + q) (by omega) (by rw [List.length_append]; omega))
  · simp only [Int.toNat_natCast] at fg fm
    rw [ep, eq, ef]
    refine ⟨?_, ?_, ?_⟩
    · rcases Nat.lt_or_ge F p with h | h
      · exact absurd (good_left W x y F fg) (pm F f1 h)
      · omega
    · rcases Nat.lt_or_ge F q with h | h
      · exact absurd (good_right W x y F fg) (qm F f1 h)
      · omega
    · rcases Nat.lt_or_ge (p + q) F with h | h
      · exact absurd hb (fm (p + q) (by omega) h)
      · omega
theorem win_least (W : Nat) (x : List Int) (h : winP W x ≠ 0) : (W : Int) ≤ winP W x := by
  rcases winP_is W x with ⟨h', _⟩ | ⟨_, F, ef, f1, f2, fg, _⟩
  · exact absurd h' h
  · simp only [Int.toNat_natCast] at fg
    have := good_le _ _ _ fg f2
    omega
end Go.Proofs.Ytgmkmdlcifhlaaa.Fair
