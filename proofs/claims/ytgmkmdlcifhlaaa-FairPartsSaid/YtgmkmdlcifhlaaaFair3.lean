/- Plain: what the printed fair.Window computes, and that it is the least window. -/
import Derived.Test.YtgmkmdlcifhlaaaFair1
namespace Go.Proofs.Ytgmkmdlcifhlaaa.Fair
open Go.RowKit Go.Proofs.YtgmkmdlcifhlaaaW.PrintWords Go.Proofs.YtgmkmdlcifhlaaaW.PrintLast Go.Proofs.YtgmkmdlcifhlaaaW.PrintMore PFairAll

def lastF (l : List Int) : Nat → Int → Int
  | 0, _ => -1
  | n + 1, w => if rd l n = w then n else lastF l n w
def gapF (l : List Int) : Nat → Int → Int
  | 0, _ => 0
  | n + 1, w => if rd l n = w then mx (gapF l n w) (n - lastF l n w) else gapF l n w
def lastL (l : List Int) (W n : Nat) : List Int := (List.range W).map fun (w : Nat) => lastF l n w
def gapL (l : List Int) (W n : Nat) : List Int := (List.range W).map fun (w : Nat) => gapF l n w
def scanF (l : List Int) : Nat → Nat → Int → Int
  | 0, _, least => least
  | d + 1, w, least => if lastF l l.length w < 0 then 0 else scanF l d (w + 1) (mx (mx least (gapF l l.length w)) (l.length - lastF l l.length w))
def winP (work : Int) (l : List Int) : Int := if work < 1 ∨ work > l.length then 0 else scanF l work.toNat 0 0

theorem lastF_bd (l : List Int) (w : Int) : ∀ n, -1 ≤ lastF l n w ∧ lastF l n w < n
  | 0 => by simp [lastF]
  | n + 1 => by
    have := lastF_bd l w n
    unfold lastF
    split <;> omega
theorem gapF_bd (l : List Int) (w : Int) : ∀ n, 0 ≤ gapF l n w ∧ gapF l n w ≤ n
  | 0 => by simp [gapF]
  | n + 1 => by
    have := gapF_bd l w n
    have := lastF_bd l w n
    unfold gapF mx
    split <;> (try split) <;> omega
theorem rd_range (f : Nat → Int) (W i : Nat) (h : i < W) : rd ((List.range W).map f) i = f i := by
  simp [rd, List.getD_eq_getElem?_getD, h]
theorem set_range (f g : Nat → Int) (W i : Nat) (x : Int) (h : ∀ j, j < W → g j = if j = i then x else f j) : ((List.range W).map f).set i x = (List.range W).map g := by
  apply List.ext_getElem
  · simp
  · intro j h1 h2
    have hj : j < W := by simpa using h2
    rw [List.getElem_set]
    simp only [List.getElem_map, List.getElem_range]
    rw [h j hj]
    split <;> split <;> first | rfl | omega
theorem wrap_small {x : Int} (h : 0 ≤ x) (h1 : x ≤ 4611686018427387904) : wrap64 (x + 1) = x + 1 := by unfold wrap64; omega

theorem l0_eq (l gap : List Int) (W : Nat) (hW : W ≤ 4611686018427387904) (d : Nat) : ∀ (k i : Nat), i + d = W →
    fair_Window.l0 (k + d + 1) W l (List.replicate i (-1) ++ List.replicate d 0) gap W i = fair_Window.l1 k W l (List.replicate W (-1)) gap l l.length 0 := by
  induction d with
  | zero =>
    intro k i h
    obtain rfl : i = W := by omega
    simp [fair_Window.l0]
  | succ d ih =>
    intro k i h
    have e : k + (d + 1) + 1 = (k + d + 1) + 1 := by omega
    rw [e]
    simp only [fair_Window.l0]
    rw [if_pos (by omega), if_pos (by omega), if_pos (by simp; omega), wrap_small (by omega) (by omega)]
    have e2 : (List.replicate i (-1 : Int) ++ List.replicate (d + 1) 0).set (i : Int).toNat (-1) = List.replicate (i + 1) (-1) ++ List.replicate d 0 := by
      rw [List.replicate_succ' (n := i)]
      simp [List.set_append, List.replicate_succ]
    rw [e2]
    exact ih k (i + 1) (by omega)

theorem l1_eq (l : List Int) (W : Nat) (hl : l.length ≤ 4611686018427387904) (d : Nat) : ∀ (k j : Nat), j + d = l.length →
    fair_Window.l1 (k + d + 1) W l (lastL l W j) (gapL l W j) l l.length j = fair_Window.l2 k l (gapL l W l.length) 0 (lastL l W l.length) W 0 := by
  induction d with
  | zero =>
    intro k j h
    obtain rfl : j = l.length := by omega
    simp [fair_Window.l1, lastL]
  | succ d ih =>
    intro k j h
    have e : k + (d + 1) + 1 = (k + d + 1) + 1 := by omega
    rw [e]
    simp only [fair_Window.l1]
    rw [if_pos (by omega), if_pos (by omega), if_pos (by omega), wrap_small (by omega) (by omega)]
    have key : ∀ (hw : ¬ (0 ≤ rd l j ∧ rd l j < W)), lastL l W (j + 1) = lastL l W j ∧ gapL l W (j + 1) = gapL l W j := by
      intro hw
      constructor <;> apply List.map_congr_left <;> intro w hm <;> have hm := List.mem_range.1 hm
      · show (if rd l j = w then _ else _) = _
        rw [if_neg (by omega)]
      · show (if rd l j = w then _ else _) = _
        rw [if_neg (by omega)]
    by_cases h0 : 0 ≤ rd l j
    · by_cases h1 : rd l j < W
      · obtain ⟨x, hx⟩ := Int.eq_ofNat_of_zero_le h0
        have hxW : x < W := by omega
        have b1 := lastF_bd l x j
        rw [if_pos h0, if_pos h1, if_pos h0, if_pos (by simpa [gapL] using h1), if_pos (by simpa [lastL] using h1), hx]
        have e3 : wrap64 ((j : Int) - rd (lastL l W j) x) = j - lastF l j x := by
          rw [lastL, rd_range _ _ _ hxW]
          unfold wrap64
          omega
        rw [e3]
        have e4 : rd (gapL l W j) x = gapF l j x := by rw [gapL, rd_range _ _ _ hxW]
        rw [e4]
        have e5 : (lastL l W j).set (x : Int).toNat j = lastL l W (j + 1) := by
          refine set_range _ _ _ _ _ (fun i hi => ?_)
          show (if rd l j = i then _ else _) = _
          rw [hx]
          simp only [Int.toNat_natCast]
          by_cases hix : i = x
          · subst hix; simp
          · rw [if_neg (by omega), if_neg hix]
        have e6 : (gapL l W j).set (x : Int).toNat (mx (gapF l j x) (j - lastF l j x)) = gapL l W (j + 1) := by
          refine set_range _ _ _ _ _ (fun i hi => ?_)
          show (if rd l j = i then _ else _) = _
          rw [hx]
          simp only [Int.toNat_natCast]
          by_cases hix : i = x
          · subst hix; simp
          · rw [if_neg (by omega), if_neg hix]
        rw [e5, e6]
        exact ih k (j + 1) (by omega)
      · obtain ⟨k1, k2⟩ := key (by omega)
        rw [if_pos h0, if_neg h1, ← k1, ← k2]
        exact ih k (j + 1) (by omega)
    · obtain ⟨k1, k2⟩ := key (by omega)
      rw [if_neg h0, ← k1, ← k2]
      exact ih k (j + 1) (by omega)

theorem l2_eq (l : List Int) (W : Nat) (hl : l.length ≤ 4611686018427387904) (hW : W ≤ 4611686018427387904) (d : Nat) : ∀ (k w : Nat) (least : Int), w + d = W →
    fair_Window.l2 (k + d + 1) l (gapL l W l.length) least (lastL l W l.length) W w = some (scanF l d w least) := by
  induction d with
  | zero =>
    intro k w least h
    obtain rfl : w = W := by omega
    simp [fair_Window.l2, scanF]
  | succ d ih =>
    intro k w least h
    have e : k + (d + 1) + 1 = (k + d + 1) + 1 := by omega
    rw [e]
    have hw : w < W := by omega
    have b1 := lastF_bd l w l.length
    simp only [fair_Window.l2]
    rw [if_pos (by omega), if_pos (by omega), if_pos (by simp [lastL]; omega), wrap_small (by omega) (by omega)]
    have e1 : rd (lastL l W l.length) w = lastF l l.length w := by rw [lastL, rd_range _ _ _ hw]
    have e2 : rd (gapL l W l.length) w = gapF l l.length w := by rw [gapL, rd_range _ _ _ hw]
    rw [e1, e2]
    unfold scanF
    by_cases h0 : lastF l l.length w < 0
    · rw [if_pos h0, if_pos h0]
    · have e3 : wrap64 ((l.length : Int) - lastF l l.length w) = l.length - lastF l l.length w := by unfold wrap64; omega
      rw [if_neg h0, if_neg h0, if_pos (by simp [gapL]; omega), e3]
      exact ih k (w + 1) _ (by omega)

theorem window_f (work : Int) (l : List Int) (hl : l.length ≤ 17592186044416) : ∃ k, fair_Window.f k work l = some (winP work l) := by
  unfold winP
  by_cases h1 : work < 1
  · refine ⟨1, ?_⟩
    rw [if_pos (.inl h1)]
    unfold fair_Window.f
    rw [if_pos h1]
    simp [fair_Window.j0]
  · by_cases h2 : work > l.length
    · refine ⟨1, ?_⟩
      rw [if_pos (.inr h2)]
      unfold fair_Window.f
      rw [if_neg h1, decide_eq_true h2]
      simp [fair_Window.j0]
    · rw [if_neg (by omega)]
      obtain ⟨W, rfl⟩ := Int.eq_ofNat_of_zero_le (show 0 ≤ work by omega)
      refine ⟨((W + 1) + l.length + 1) + W + 1 + 1, ?_⟩
      unfold fair_Window.f
      rw [if_neg h1, decide_eq_false h2]
      simp only [fair_Window.j0]
      rw [if_neg (by simp), if_pos (by omega), if_pos (by simp; omega)]
      have a0 := l0_eq l (List.replicate (W : Int).toNat 0) W (by omega) W ((W + 1) + l.length + 1) 0 (by omega)
      simp only [List.replicate_zero, List.nil_append] at a0
      simp only [Int.toNat_natCast] at a0 ⊢
      refine a0.trans ?_
      have a1 := l1_eq l W (by omega) l.length (W + 1) 0 (by omega)
      have e1 : lastL l W 0 = List.replicate W (-1) := by
        apply List.ext_getElem
        · simp [lastL]
        · intro i h3 h4
          simp [lastL, lastF]
      have e2 : gapL l W 0 = List.replicate W 0 := by
        apply List.ext_getElem
        · simp [gapL]
        · intro i h3 h4
          simp [gapL, gapF]
      rw [e1, e2] at a1
      refine a1.trans ?_
      have a2 := l2_eq l W (by omega) (by omega) W 0 0 0 (by omega)
      rw [show W + 1 = 0 + W + 1 by omega]
      exact a2
end Go.Proofs.Ytgmkmdlcifhlaaa.Fair
