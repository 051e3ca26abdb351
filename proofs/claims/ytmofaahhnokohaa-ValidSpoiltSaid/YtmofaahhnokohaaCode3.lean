/- Walk: code.big. -/
import Derived.Test.YtmofaahhnokohaaCode2
namespace Go.Proofs.Ytmofaahhnokohaa.Code
set_option linter.unusedSimpArgs false
set_option linter.unusedVariables false
open Go.RowKit Go.Proofs.YtmofaahhnokohaaW.PrintWords Go.Proofs.YtmofaahhnokohaaW.PrintLast Go.Proofs.YtmofaahhnokohaaW.PrintMore PCodeAll Go.Proofs.YtmofaahhnokohaaW.Canon
attribute [local go_sem] max2_mx min2_mn max_two min_two max_three min_three max_four min_four

theorem ne_own {u v : Value} {n k : Nat} (h : u.ownBlock = v.ownBlock ∨ ∃ b, u.ownBlock = some b ∧ n ≤ b) (hk : k < n) (hne : some k ≠ v.ownBlock) : some k ≠ u.ownBlock := by
  rcases h with h | ⟨b, h, hb⟩
  · rw [h]; exact hne
  · rw [h]
    intro he
    have := Option.some.inj he
    omega
theorem own_step {u v y : Value} {n m : Nat} (h : u.ownBlock = v.ownBlock ∨ ∃ b, u.ownBlock = some b ∧ n ≤ b) (hat : y.ownBlock = u.ownBlock ∨ ∃ b, y.ownBlock = some b ∧ m ≤ b) (hm : n ≤ m) : y.ownBlock = v.ownBlock ∨ ∃ b, y.ownBlock = some b ∧ n ≤ b := by
  rcases hat with hat | ⟨b, hat, hb⟩
  · rw [hat]; exact h
  · exact .inr ⟨b, hat, by omega⟩
abbrev RB (w : World) (base : Nat) (v : Value) (xs : List Int) : Prop := (Kd.int .u8).R 5 w base (fun _ => True) v xs
/-- The k-th byte of a number. -/
def byteAt (x : Int) (k : Nat) : Int := (x / 2 ^ (8 * k)) % 256
/-- So many bytes, the highest first. -/
def bigB (x : Int) : Nat → List Int
  | 0 => []
  | n + 1 => byteAt x n :: bigB x n
theorem bigB_len (x : Int) (n : Nat) : (bigB x n).length = n := by
  induction n with
  | zero => rfl
  | succ n ih => rw [bigB, List.length_cons, ih]
theorem byteAt_0 (x : Int) : byteAt x 0 = x % 256 := by simp [byteAt]
theorem byteAt_1 (x : Int) : byteAt x 1 = x / 256 % 256 := rfl
theorem byteAt_2 (x : Int) : byteAt x 2 = x / 65536 % 256 := rfl
theorem byteAt_3 (x : Int) : byteAt x 3 = x / 16777216 % 256 := rfl

set_option maxHeartbeats 1000000 in
theorem big_calls (v0 : Value) (xs : List Int) (x : Int) (n : Nat) (hn : n ≤ 4) (base : Nat) (w : World) (hR : RB w base v0 xs) (hb : base ≤ w.heap.size) (hx : xs.length ≤ 100000) :
    Calls Try.prog 33 #[v0, .int .i64 x, .int .i64 n] w fun e w' => ∃ v1, e = .returned v1 ∧ RB w' base v1 (xs ++ bigB x n) ∧ Below base w w' ∧ (∀ k, k < w.heap.size → some k ≠ v0.ownBlock → w'.heap[k]? = w.heap[k]?) ∧ (v1.ownBlock = v0.ownBlock ∨ ∃ b, v1.ownBlock = some b ∧ w.heap.size ≤ b) := by
  have HR := Aside0.mk hR
  clear hR
  go_enter Try.func33, Try.ntmps33
  go_wp2_with (fail)
  go_loopw [0, 2] (fun u0 u2 w' => ∃ (m : Nat) (P : List Int), u2 = .int .i64 ((m : Int) - 1) ∧ m ≤ n ∧ P.length + m = n ∧ Aside0 (P ++ bigB x m = bigB x n) ∧ Aside0 (RB w' base u0 (xs ++ P)) ∧ Aside0 (Below base w w') ∧ Aside0 (∀ k, k < w.heap.size → some k ≠ v0.ownBlock → w'.heap[k]? = w.heap[k]?) ∧ Aside0 (u0.ownBlock = v0.ownBlock ∨ ∃ b, u0.ownBlock = some b ∧ w.heap.size ≤ b)) (fun _ u2 _ => ((intOf u2) + 1).toNat)
  case atStart => exact ⟨n, [], by first | rfl | go_num, by omega, by simp, ⟨rfl⟩, ⟨by rw [List.append_nil]; exact HR.out⟩, ⟨Below.refl _ _⟩, ⟨fun _ _ _ => rfl⟩, ⟨.inl rfl⟩⟩
  case round =>
    obtain ⟨m, P, rfl, hm, hP, HP, HO, HB, KP, OB⟩ := hrel
    have hsz := HB.out.size
    cases m with
    | zero =>
      have hz : P = bigB x n := by have h := HP.out; rw [bigB, List.append_nil] at h; exact h
      have E := Aside0.mk (show RB wr base u0 (xs ++ bigB x n) by rw [← hz]; exact HO.out)
      clear hz HP HO
      go_wp2_with (fail)
      go_ret
      exact ⟨_, rfl, E.out, HB.out, KP.out, OB.out⟩
    | succ m =>
      have hc : m = 0 ∨ m = 1 ∨ m = 2 ∨ m = 3 := by omega
      rcases hc with rfl | rfl | rfl | rfl
      · go_wp2_with (at_builtin; refine Kd.R_append (Kd.int .u8) (w0 := w) base rfl (.tmp 13) (.tmp 19) 48 5 (.int .u8 0) 1 rfl Try.underlying48 info5 rfl (by decide) (by omega) u0 (xs ++ P) _ _ (fun _ => True) (fun _ => False) rfl rfl rfl (fun _ hk => hk.elim) (fun _ _ => trivial) HO.out HB.out (by omega) (by rw [List.length_append]; omega) ?_; intro y1 w1 ho hb1 hg hat; have HO1 := Aside0.mk ho; have HB1 := Aside0.mk hb1; have KP1 : Aside0 (∀ k, k < w.heap.size → some k ≠ v0.ownBlock → w1.heap[k]? = w.heap[k]?) := ⟨fun k hk hne => (hg.block k (by omega) (ne_own OB.out hk hne)).trans (KP.out k hk hne)⟩; have OB1 := Aside0.mk (own_step OB.out hat hsz); clear ho hb1 hg hat)
        exact ⟨⟨0, P ++ [byteAt x 0], by first | rfl | (congr 1), by omega, by rw [List.length_append]; simp only [List.length_singleton]; omega, ⟨by rw [← HP.out, List.append_assoc]; rfl⟩, ⟨by rw [← List.append_assoc, byteAt_0]; exact HO1.out⟩, HB1, KP1, OB1⟩, by simp only [intOf]; decide⟩
      · go_wp2_with (at_builtin; refine Kd.R_append (Kd.int .u8) (w0 := w) base rfl (.tmp 13) (.tmp 19) 48 5 (.int .u8 0) 1 rfl Try.underlying48 info5 rfl (by decide) (by omega) u0 (xs ++ P) _ _ (fun _ => True) (fun _ => False) rfl rfl rfl (fun _ hk => hk.elim) (fun _ _ => trivial) HO.out HB.out (by omega) (by rw [List.length_append]; omega) ?_; intro y1 w1 ho hb1 hg hat; have HO1 := Aside0.mk ho; have HB1 := Aside0.mk hb1; have KP1 : Aside0 (∀ k, k < w.heap.size → some k ≠ v0.ownBlock → w1.heap[k]? = w.heap[k]?) := ⟨fun k hk hne => (hg.block k (by omega) (ne_own OB.out hk hne)).trans (KP.out k hk hne)⟩; have OB1 := Aside0.mk (own_step OB.out hat hsz); clear ho hb1 hg hat)
        exact ⟨⟨1, P ++ [byteAt x 1], by first | rfl | (congr 1), by omega, by rw [List.length_append]; simp only [List.length_singleton]; omega, ⟨by rw [← HP.out, List.append_assoc]; rfl⟩, ⟨by rw [← List.append_assoc, byteAt_1]; exact HO1.out⟩, HB1, KP1, OB1⟩, by simp only [intOf]; decide⟩
      · go_wp2_with (at_builtin; refine Kd.R_append (Kd.int .u8) (w0 := w) base rfl (.tmp 13) (.tmp 19) 48 5 (.int .u8 0) 1 rfl Try.underlying48 info5 rfl (by decide) (by omega) u0 (xs ++ P) _ _ (fun _ => True) (fun _ => False) rfl rfl rfl (fun _ hk => hk.elim) (fun _ _ => trivial) HO.out HB.out (by omega) (by rw [List.length_append]; omega) ?_; intro y1 w1 ho hb1 hg hat; have HO1 := Aside0.mk ho; have HB1 := Aside0.mk hb1; have KP1 : Aside0 (∀ k, k < w.heap.size → some k ≠ v0.ownBlock → w1.heap[k]? = w.heap[k]?) := ⟨fun k hk hne => (hg.block k (by omega) (ne_own OB.out hk hne)).trans (KP.out k hk hne)⟩; have OB1 := Aside0.mk (own_step OB.out hat hsz); clear ho hb1 hg hat)
        exact ⟨⟨2, P ++ [byteAt x 2], by first | rfl | (congr 1), by omega, by rw [List.length_append]; simp only [List.length_singleton]; omega, ⟨by rw [← HP.out, List.append_assoc]; rfl⟩, ⟨by rw [← List.append_assoc, byteAt_2]; exact HO1.out⟩, HB1, KP1, OB1⟩, by simp only [intOf]; decide⟩
      · go_wp2_with (at_builtin; refine Kd.R_append (Kd.int .u8) (w0 := w) base rfl (.tmp 13) (.tmp 19) 48 5 (.int .u8 0) 1 rfl Try.underlying48 info5 rfl (by decide) (by omega) u0 (xs ++ P) _ _ (fun _ => True) (fun _ => False) rfl rfl rfl (fun _ hk => hk.elim) (fun _ _ => trivial) HO.out HB.out (by omega) (by rw [List.length_append]; omega) ?_; intro y1 w1 ho hb1 hg hat; have HO1 := Aside0.mk ho; have HB1 := Aside0.mk hb1; have KP1 : Aside0 (∀ k, k < w.heap.size → some k ≠ v0.ownBlock → w1.heap[k]? = w.heap[k]?) := ⟨fun k hk hne => (hg.block k (by omega) (ne_own OB.out hk hne)).trans (KP.out k hk hne)⟩; have OB1 := Aside0.mk (own_step OB.out hat hsz); clear ho hb1 hg hat)
        exact ⟨⟨3, P ++ [byteAt x 3], by first | rfl | (congr 1), by omega, by rw [List.length_append]; simp only [List.length_singleton]; omega, ⟨by rw [← HP.out, List.append_assoc]; rfl⟩, ⟨by rw [← List.append_assoc, byteAt_3]; exact HO1.out⟩, HB1, KP1, OB1⟩, by simp only [intOf]; decide⟩
end Go.Proofs.Ytmofaahhnokohaa.Code
