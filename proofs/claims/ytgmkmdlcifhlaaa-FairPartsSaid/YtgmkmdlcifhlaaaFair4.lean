/- Plain: the least window: what it is, and that there is one at most. -/
import Derived.Test.YtgmkmdlcifhlaaaFair3
namespace Go.Proofs.Ytgmkmdlcifhlaaa.Fair
open Go.RowKit Go.Proofs.YtgmkmdlcifhlaaaW.PrintWords Go.Proofs.YtgmkmdlcifhlaaaW.PrintLast Go.Proofs.YtgmkmdlcifhlaaaW.PrintMore PFairAll

/-- Each of W workers is among any F that stand one behind the other. -/
def Good (W : Nat) (l : List Int) (F : Nat) : Prop := ∀ i, i + F ≤ l.length → ∀ w : Nat, w < W → ∃ j, i ≤ j ∧ j < i + F ∧ rd l j = w

theorem lastF_ge (l : List Int) (w : Int) : ∀ n (a : Nat), (a : Int) ≤ lastF l n w ↔ ∃ j, a ≤ j ∧ j < n ∧ rd l j = w
  | 0, a => by simp [lastF]; omega
  | n + 1, a => by
    have ih := lastF_ge l w n a
    unfold lastF
    by_cases h : rd l n = w
    · rw [if_pos h]
      constructor
      · intro ha
        exact ⟨n, by omega, by omega, h⟩
      · rintro ⟨j, h1, h2, _⟩
        omega
    · rw [if_neg h, ih]
      constructor
      · rintro ⟨j, h1, h2, h3⟩
        exact ⟨j, h1, by omega, h3⟩
      · rintro ⟨j, h1, h2, h3⟩
        refine ⟨j, h1, ?_, h3⟩
        rcases Nat.lt_or_ge j n with h4 | h4
        · exact h4
        · obtain rfl : j = n := by omega
          exact absurd h3 h

theorem part_iff (l : List Int) (w : Int) (F : Nat) (hF : 1 ≤ F) : ∀ n, (∀ i, i + F ≤ n → ∃ j, i ≤ j ∧ j < i + F ∧ rd l j = w) ↔ gapF l n w ≤ F ∧ n - lastF l n w ≤ F
  | 0 => by
    constructor
    · intro _
      simp [gapF, lastF]
      omega
    · intro _ i hi
      omega
  | n + 1 => by
    have ih := part_iff l w F hF n
    have b1 := lastF_bd l w n
    have b2 := gapF_bd l w n
    have step : (∀ i, i + F ≤ n + 1 → ∃ j, i ≤ j ∧ j < i + F ∧ rd l j = w) ↔ (∀ i, i + F ≤ n → ∃ j, i ≤ j ∧ j < i + F ∧ rd l j = w) ∧ (F ≤ n + 1 → ∃ j, n + 1 - F ≤ j ∧ j < n + 1 ∧ rd l j = w) := by
      constructor
      · intro h
        refine ⟨fun i hi => h i (by omega), fun hle => ?_⟩
        obtain ⟨j, h1, h2, h3⟩ := h (n + 1 - F) (by omega)
        exact ⟨j, h1, by omega, h3⟩
      · rintro ⟨h, hl⟩ i hi
        rcases Nat.lt_or_ge n (i + F) with h4 | h4
        · obtain ⟨j, h1, h2, h3⟩ := hl (by omega)
          exact ⟨j, by omega, by omega, h3⟩
        · exact h i h4
    rw [step, ih]
    by_cases h : rd l n = w
    · have e1 : lastF l (n + 1) w = n := by unfold lastF; rw [if_pos h]
      have e2 : gapF l (n + 1) w = mx (gapF l n w) (n - lastF l n w) := by show (if _ then _ else _) = _; rw [if_pos h]
      rw [e1, e2]
      constructor
      · rintro ⟨⟨h1, h2⟩, _⟩
        refine ⟨?_, by omega⟩
        unfold mx
        split <;> omega
      · rintro ⟨h1, _⟩
        refine ⟨?_, fun _ => ⟨n, by omega, by omega, h⟩⟩
        unfold mx at h1
        split at h1 <;> constructor <;> omega
    · have e1 : lastF l (n + 1) w = lastF l n w := by show (if _ then _ else _) = _; rw [if_neg h]
      have e2 : gapF l (n + 1) w = gapF l n w := by show (if _ then _ else _) = _; rw [if_neg h]
      rw [e1, e2]
      constructor
      · rintro ⟨⟨h1, h2⟩, h3⟩
        refine ⟨h1, ?_⟩
        rcases Nat.lt_or_ge (n + 1) F with h4 | h4
        · omega
        · have h5 := (lastF_ge l w (n + 1) (n + 1 - F)).2 (h3 h4)
          rw [e1] at h5
          omega
      · rintro ⟨h1, h2⟩
        refine ⟨⟨h1, by omega⟩, fun h4 => ?_⟩
        refine (lastF_ge l w (n + 1) (n + 1 - F)).1 ?_
        rw [e1]
        omega

theorem good_iff (W : Nat) (l : List Int) (F : Nat) (hF : 1 ≤ F) : Good W l F ↔ ∀ w : Nat, w < W → gapF l l.length w ≤ F ∧ l.length - lastF l l.length w ≤ F := by
  constructor
  · intro h w hw
    exact (part_iff l w F hF l.length).1 (fun i hi => h i hi w hw)
  · intro h i hi w hw
    exact (part_iff l w F hF l.length).2 (h w hw) i hi

theorem scan_zero (l : List Int) : ∀ d w least, (∃ x : Nat, w ≤ x ∧ x < w + d ∧ lastF l l.length x < 0) → scanF l d w least = 0
  | 0, w, least, h => by obtain ⟨x, h1, h2, _⟩ := h; omega
  | d + 1, w, least, h => by
    unfold scanF
    split
    · rfl
    · rename_i hw
      refine scan_zero l d (w + 1) _ ?_
      obtain ⟨x, h1, h2, h3⟩ := h
      refine ⟨x, ?_, by omega, h3⟩
      rcases Nat.lt_or_ge w x with h4 | h4
      · exact h4
      · obtain rfl : x = w := by omega
        exact absurd h3 hw
theorem mx_le {a b c : Int} : mx a b ≤ c ↔ a ≤ c ∧ b ≤ c := by unfold mx; split <;> omega
theorem scan_le (l : List Int) : ∀ d (w : Nat) least, (∀ x : Nat, w ≤ x → x < w + d → 0 ≤ lastF l l.length x) →
    ∀ F, scanF l d w least ≤ F ↔ least ≤ F ∧ ∀ x : Nat, w ≤ x → x < w + d → gapF l l.length x ≤ F ∧ l.length - lastF l l.length x ≤ F
  | 0, w, least, _, F => by
    unfold scanF
    exact ⟨fun h => ⟨h, fun x h1 h2 => by omega⟩, fun h => h.1⟩
  | d + 1, w, least, h, F => by
    unfold scanF
    rw [if_neg (by have := h w (by omega) (by omega); omega), scan_le l d (w + 1) _ (fun x h1 h2 => h x (by omega) (by omega)) F, mx_le, mx_le]
    constructor
    · rintro ⟨⟨⟨h1, h2⟩, h3⟩, h4⟩
      refine ⟨h1, fun x h5 h6 => ?_⟩
      rcases Nat.lt_or_ge w x with h7 | h7
      · exact h4 x h7 (by omega)
      · obtain rfl : x = w := by omega
        exact ⟨h2, h3⟩
    · rintro ⟨h1, h2⟩
      exact ⟨⟨⟨h1, (h2 w (by omega) (by omega)).1⟩, (h2 w (by omega) (by omega)).2⟩, fun x h3 h4 => h2 x (by omega) (by omega)⟩

theorem many (f : Nat → Int) : ∀ (F : Nat) (s : List Nat), s.Nodup → (∀ w ∈ s, ∃ j, j < F ∧ f j = w) → s.length ≤ F
  | 0, s, _, h => by
    cases s with
    | nil => simp
    | cons x s => obtain ⟨j, hj, _⟩ := h x (by simp); omega
  | F + 1, s, hn, h => by
    have h1 := many f F (s.erase (f F).toNat) (hn.erase _) (fun w hw => by
      have hm := (List.Nodup.mem_erase_iff hn).1 hw
      obtain ⟨j, hj, hf⟩ := h w hm.2
      refine ⟨j, ?_, hf⟩
      rcases Nat.lt_or_ge j F with h4 | h4
      · exact h4
      · obtain rfl : j = F := by omega
        exact absurd (by rw [hf]; simp) hm.1)
    have h2 : s.length ≤ (s.erase (f F).toNat).length + 1 := by
      by_cases hm : (f F).toNat ∈ s
      · rw [List.length_erase_of_mem hm]; omega
      · rw [List.erase_of_not_mem hm]; omega
    omega
theorem good_le (W : Nat) (l : List Int) (F : Nat) (h : Good W l F) (hF : F ≤ l.length) : W ≤ F := by
  have := many (fun j => rd l j) F (List.range W) List.nodup_range (fun w hw => by
    obtain ⟨j, _, h2, h3⟩ := h 0 (by omega) w (List.mem_range.1 hw)
    exact ⟨j, by omega, h3⟩)
  simpa using this

/-- What the window is. -/
def IsWin (work : Int) (l : List Int) (r : Int) : Prop :=
  (r = 0 ∧ (work < 1 ∨ ∀ F, 1 ≤ F → F ≤ l.length → ¬ Good work.toNat l F)) ∨
  (1 ≤ work ∧ ∃ n : Nat, r = n ∧ 1 ≤ n ∧ n ≤ l.length ∧ Good work.toNat l n ∧ ∀ F, 1 ≤ F → F < n → ¬ Good work.toNat l F)

theorem isWin_unique {work : Int} {l : List Int} {r s : Int} (h : IsWin work l r) (k : IsWin work l s) : r = s := by
  rcases h with ⟨rfl, h⟩ | ⟨hw, n, rfl, h1, h2, h3, h4⟩
  · rcases k with ⟨rfl, _⟩ | ⟨kw, m, rfl, k1, k2, k3, _⟩
    · rfl
    · rcases h with h | h
      · omega
      · exact absurd k3 (h m k1 k2)
  · rcases k with ⟨rfl, k⟩ | ⟨kw, m, rfl, k1, k2, k3, k4⟩
    · rcases k with k | k
      · omega
      · exact absurd h3 (k n h1 h2)
    · rcases Nat.lt_or_ge n m with c | c
      · exact absurd h3 (k4 n h1 c)
      · rcases Nat.lt_or_ge m n with c' | c'
        · exact absurd k3 (h4 m k1 c')
        · omega

theorem winP_is (work : Int) (l : List Int) : IsWin work l (winP work l) := by
  unfold winP
  by_cases h1 : work < 1
  · rw [if_pos (.inl h1)]
    exact .inl ⟨rfl, .inl h1⟩
  · by_cases h2 : work > l.length
    · rw [if_pos (.inr h2)]
      refine .inl ⟨rfl, .inr fun F hF hF2 hg => ?_⟩
      have := good_le _ _ _ hg hF2
      omega
    · rw [if_neg (by omega)]
      obtain ⟨W, rfl⟩ := Int.eq_ofNat_of_zero_le (show 0 ≤ work by omega)
      simp only [Int.toNat_natCast]
      by_cases h3 : ∃ x : Nat, x < W ∧ lastF l l.length x < 0
      · obtain ⟨x, h3, h4⟩ := h3
        rw [scan_zero l W 0 0 ⟨x, by omega, by omega, h4⟩]
        refine .inl ⟨rfl, .inr fun F hF hF2 hg => ?_⟩
        have := ((good_iff _ _ _ hF).1 hg x h3).2
        have := lastF_bd l x l.length
        omega
      · have h4 : ∀ x : Nat, 0 ≤ x → x < 0 + W → 0 ≤ lastF l l.length x := fun x _ hx => by
          rcases Int.lt_or_le (lastF l l.length x) 0 with h5 | h5
          · exact absurd ⟨x, by omega, h5⟩ h3
          · exact h5
        have hle := scan_le l W 0 0 h4
        have hgood : ∀ F : Nat, 1 ≤ F → (Good W l F ↔ scanF l W 0 0 ≤ F) := fun F hF => by
          rw [good_iff _ _ _ hF, hle F]
          exact ⟨fun h => ⟨by omega, fun x _ hx => h x (by omega)⟩, fun h w hw => h.2 w (by omega) (by omega)⟩
        have hpos : ∀ M : Int, scanF l W 0 0 ≤ M → 1 ≤ M := fun M hM => by
          have := ((hle M).1 hM).2 0 (by omega) (by omega)
          have := lastF_bd l (0 : Nat) l.length
          omega
        have hlen : scanF l W 0 0 ≤ l.length := (hle _).2 ⟨by omega, fun x h5 h6 => by
          have := gapF_bd l x l.length
          have := h4 x h5 h6
          omega⟩
        have h1' := hpos _ (Int.le_refl _)
        obtain ⟨n, hn⟩ := Int.eq_ofNat_of_zero_le (show 0 ≤ scanF l W 0 0 by omega)
        rw [hn] at hlen h1' hgood
        refine .inr ⟨by omega, n, hn, by omega, by omega, (hgood n (by omega)).2 (Int.le_refl _), fun F hF hlt hg => ?_⟩
        have := (hgood F hF).1 hg
        omega

/-- Are all workers in a part? -/
def allB (work : Int) (l : List Int) : Bool := (List.range work.toNat).all fun (w : Nat) => l.any fun x => x == (w : Int)
theorem allB_iff (work : Int) (l : List Int) : allB work l = true ↔ ∀ w : Nat, (w : Int) < work → ∃ j, j < l.length ∧ rd l j = w := by
  unfold allB
  rw [List.all_eq_true]
  constructor
  · intro h w hw
    have h1 := h w (List.mem_range.2 (by omega))
    obtain ⟨x, hx, he⟩ := List.any_eq_true.1 h1
    obtain ⟨j, hj, hjx⟩ := List.getElem_of_mem hx
    refine ⟨j, hj, ?_⟩
    simp [rd, List.getD_eq_getElem?_getD, List.getElem?_eq_getElem hj, hjx]
    exact eq_of_beq he
  · intro h w hw
    obtain ⟨j, hj, he⟩ := h w (by have := List.mem_range.1 hw; omega)
    refine List.any_eq_true.2 ⟨l[j], List.getElem_mem hj, ?_⟩
    simp [rd, List.getD_eq_getElem?_getD, List.getElem?_eq_getElem hj] at he
    simp [he]
theorem good_all (work : Int) (l : List Int) (F : Nat) : Good work.toNat l F ↔ ∀ i, i + F ≤ l.length → allB work ((l.take (i + F)).drop i) = true := by
  have key : ∀ i, i + F ≤ l.length → (allB work ((l.take (i + F)).drop i) = true ↔ ∀ w : Nat, w < work.toNat → ∃ j, i ≤ j ∧ j < i + F ∧ rd l j = w) := fun i hi => by
    rw [allB_iff]
    have hlen : ((l.take (i + F)).drop i).length = F := by simp; omega
    have hrd : ∀ j : Nat, j < F → rd ((l.take (i + F)).drop i) j = rd l ((i + j : Nat) : Int) := fun j hj => by
      simp [rd, List.getD_eq_getElem?_getD, List.getElem?_take, show i + j < i + F by omega]
      congr 2
    rw [hlen]
    constructor
    · intro h w hw
      obtain ⟨j, hj, he⟩ := h w (by omega)
      rw [hrd j hj] at he
      exact ⟨i + j, by omega, by omega, he⟩
    · intro h w hw
      obtain ⟨j, h1, h2, he⟩ := h w (by omega)
      refine ⟨j - i, by omega, ?_⟩
      rw [hrd _ (by omega), show i + (j - i) = j by omega]
      exact he
  constructor
  · intro h i hi
    exact (key i hi).2 (h i hi)
  · intro h i hi
    exact (key i hi).1 (h i hi)
end Go.Proofs.Ytgmkmdlcifhlaaa.Fair
