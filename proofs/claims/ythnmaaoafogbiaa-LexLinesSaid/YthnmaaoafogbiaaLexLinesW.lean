/- The walk of LexLines. -/
import Derived.Test.YthnmaaoafogbiaaLexA3
import Derived.Test.YthnmaaoafogbiaaLex12
namespace Go.Proofs.Ythnmaaoafogbiaa.LexLines
set_option linter.unusedSimpArgs false
set_option linter.unusedVariables false
open Go.RowKit Go.Proofs.YthnmaaoafogbiaaW.PrintWords Go.Proofs.YthnmaaoafogbiaaW.PrintLast Go.Proofs.YthnmaaoafogbiaaW.PrintMore PLexAll Go.Proofs.YthnmaaoafogbiaaW.Canon Lex
attribute [local go_sem] max2_mx min2_mn max_two min_two max_three min_three max_four min_four

theorem sl22 : Try.prog.underlying 22 = some (.slice (Try.prog.elem 22)) := by kernel_rfl
theorem sz22 (w : World) : (sizeOf (Try.prog.elem 22)).run Try.prog w = .ok 4 w := by rfl
theorem ix22 (ad : Addr) (len : Nat) (c : Nat) (i : Int) (n : Nat) (W : World) (h0 : 0 ≤ i) (h1 : i < len) (hn : i.toNat * 4 = n) :
    (Instr.indexAt 22 (.slice (some ad) len c) (.int .i64 i)).run Try.prog W = .ok (.pointer (some (ad.add n))) W := by
  rw [run_indexAt_slice (h := sl22), if_pos ⟨h0, h1⟩, sz22, ← hn]
  rfl
theorem sl38 : Try.prog.underlying 38 = some (.slice (Try.prog.elem 38)) := by kernel_rfl
theorem sz38 (w : World) : (sizeOf (Try.prog.elem 38)).run Try.prog w = .ok 1 w := by rfl
theorem ix38 (ad : Addr) (len : Nat) (c : Nat) (i : Int) (n : Nat) (W : World) (h0 : 0 ≤ i) (h1 : i < len) (hn : i.toNat = n) :
    (Instr.indexAt 38 (.slice (some ad) len c) (.int .i64 i)).run Try.prog W = .ok (.pointer (some (ad.add n))) W := by
  rw [run_indexAt_slice (h := sl38), if_pos ⟨h0, h1⟩, sz38, ← hn]
  show Result.ok (Value.pointer (some (ad.add (i.toNat * 1)))) W = _
  rw [Nat.mul_one]
theorem info3 : (Try.prog.info? 3).map (fun i => (i.zero, i.size, i.bytes)) = some (some (.int .i64 0), 1, 8) := by kernel_rfl
theorem meas1 {n j : Nat} {W : Int} (h : j < n) (hW : W = j + 1) : n - (intOf (.int .i64 W)).toNat < n - (intOf (.int .i64 (j : Int))).toNat := by simp only [intOf]; omega
def abc (m : Nat) : List UInt8 := [97, 98, 99].take (m + 1)
theorem abc_slice (m : Int) (h0 : 0 ≤ m) (h1 : m ≤ 2) (W : World) :
    (Instr.slice 9 (.string ⟨#[32, 97, 98, 99]⟩) none (some (.int .i64 (2 + m))) none).run Try.prog W = .ok (.string (bs (32 :: abc m.toNat))) W := by
  have hk : m = 0 ∨ m = 1 ∨ m = 2 := by omega
  rcases hk with rfl | rfl | rfl <;> rfl
theorem abc_ok (m : Nat) : (∀ c ∈ abc m, isLB c = true) ∧ abc m ≠ [] ∧ (abc m).length ≤ 3 := by
  refine ⟨fun c hc => ?_, by simp [abc], by simp [abc]; omega⟩
  have : c ∈ [(97 : UInt8), 98, 99] := List.mem_of_mem_take hc
  simp only [List.mem_cons, List.not_mem_nil, or_false] at this
  rcases this with rfl | rfl | rfl <;> decide
theorem dig_slice (k : Int) (h0 : 0 ≤ k) (h1 : k ≤ 9) (W : World) :
    (Instr.slice 9 (.string ⟨#[48, 49, 50, 51, 52, 53, 54, 55, 56, 57]⟩) (some (.int .i64 k)) (some (.int .i64 (k + 1))) none).run Try.prog W = .ok (.string (bs [ch (48 + k)])) W := by
  have hk : k = 0 ∨ k = 1 ∨ k = 2 ∨ k = 3 ∨ k = 4 ∨ k = 5 ∨ k = 6 ∨ k = 7 ∨ k = 8 ∨ k = 9 := by omega
  rcases hk with rfl | rfl | rfl | rfl | rfl | rfl | rfl | rfl | rfl | rfl <;> rfl
/-- Where the law stands. -/
structure At (w w' : World) (s : List UInt8) (L : List S31) (n : Int) (v6 v7 v8 : Value) : Prop where
  ln : Ln s L n
  three : Three w w' v6 v7 v8 (L.map (·.f0)) (L.map (·.f2)) (L.map (·.f3))


theorem three_snoc {w w' : World} {v6 v7 v8 : Value} {L : List S31} (y : S31) (h : Three w w' v6 v7 v8 (L.map (·.f0) ++ [y.f0]) (L.map (·.f2) ++ [y.f2]) (L.map (·.f3) ++ [y.f3])) :
    Three w w' v6 v7 v8 ((L ++ [y]).map (·.f0)) ((L ++ [y]).map (·.f2)) ((L ++ [y]).map (·.f3)) := by
  simp only [List.map_append, List.map_cons, List.map_nil]
  exact h
theorem rd_map (f : S31 → Int) (M : List S31) (j : Nat) (h : j < M.length) : rd (M.map f) (j : Int) = f (rd_T31 M (j : Int)) := by
  simp only [rd, rd_T31, Int.toNat_natCast, List.getD_eq_getElem?_getD, List.getElem?_map]
  rw [List.getElem?_eq_getElem h]
  rfl




set_option maxRecDepth 20000 in
set_option maxHeartbeats 1000000 in
theorem LexLines_calls (A : Option Addr) (c : Nat) (ds : List Int) (w : World) (hr : Kd.C (Kd.int .i64) w A ds.length ds) (hm : ds.length ≤ 17592186044416) :
    Calls Try.prog 6 #[.slice A ds.length c] w fun e w' => e = .returned (.bool true) ∧ Below w.heap.size w w' := by
  have HC := Aside0.mk hr
  clear hr
  go_enter Try.func6, Try.ntmps6
  go_wp2_with (fail)
  go_loopw [3, 4, 5, 6, 7, 8, 9] (fun u3 u4 u5 u6 u7 u8 u9 w' => ∃ (i : Nat) (s : List UInt8) (L : List S31) (n : Int), Aside0 (At w w' s L n u6 u7 u8) ∧ u3 = .string (bs s) ∧ u4 = .int .i64 n ∧ u5 = .bool (!lastEnd L) ∧ u9 = .int .i64 i ∧ i ≤ 60 ∧ i ≤ ds.length ∧ s.length ≤ 4 * i ∧ L.length ≤ i ∧ 1 ≤ n ∧ n ≤ i + 1) (fun _ _ _ _ _ _ u9 _ => 60 - (intOf u9).toNat)
  case atStart => exact ⟨0, [], [], 1, ⟨⟨Ln.nil, Three.nil _⟩⟩, rfl, rfl, rfl, rfl, by omega, by omega, by simp, by simp, by omega, by omega⟩
  case round =>
    obtain ⟨i, s, L, n, HA, rfl, rfl, rfl, rfl, hi, hid, hs, hL, hn0, hn1⟩ := hrel
    have e1 : (bs s).size = s.length := bs_size s
    by_cases hlt : i < ds.length
    · by_cases h60 : i < 60
      · obtain ⟨ad, rfl, a0⟩ := Kd.at_int (Kd.C_below HC.out HA.out.three.below) i (by omega) (by omega)
        rw [Int.toNat_natCast] at a0
        have hix := fun (W : World) => ix38 ad ds.length c (i : Int) i W (by omega) (by omega) (Int.toNat_natCast i)
        go_wp2_with (fail)
        refine (Place_calls _ _ _ (by omega) (by omega)).mono ?_
        rintro e w' ⟨rfl, rfl⟩
        have v0 : 0 ≤ rd ds i % 1048576 := by omega
        have v1 : rd ds i % 1048576 < 1048576 := by omega
        revert v0 v1
        generalize rd ds i % 1048576 = v
        intro v0 v1
        clear hix a0
        obtain ⟨q, hq⟩ : ∃ q, v % 4 = q := ⟨_, rfl⟩
        have hq0 : 0 ≤ q := by omega
        have hq1 : q < 4 := by omega
        have T0 := Aside0.mk HA.out.three
        have hcases : q = 0 ∨ q = 1 ∨ q = 2 ∨ q = 3 := by omega
        rcases hcases with rfl | rfl | rfl | rfl
        · have q1 : ¬ (9223372036854775807 < s.length + 1) := by omega
          have hwn : wrap64 (n + 1) = n + 1 := wrap64_id _ (by omega)
          rcases hle : lastEnd L
          · have hsh : shutL n L = L ++ [⟨4, bs [], 0, n⟩] := if_neg (by rw [hle]; exact Bool.false_ne_true)
            have HLN := Aside0.mk (show Ln (s ++ [10]) (L ++ [⟨4, bs [], 0, n⟩]) (n + 1) by rw [← hsh]; exact HA.out.ln.newline)
            clear hsh HA
            go_wp2_with (at_builtin; first
              | (refine Kd.R_append (Kd.int .i64) (w0 := w) w.heap.size rfl (.tmp 49) (.tmp 50) 38 3 (.int .i64 0) 8 rfl Try.underlying38 info3 rfl (by decide) (by omega) u6 (L.map (·.f0)) 4 _ (fun _ => True) (fun _ => False) rfl rfl rfl (fun _ hk => hk.elim) (fun _ _ => trivial) T0.out.r6 T0.out.below (below_size T0.out.below) (by rw [List.length_map]; omega) ?_; intro y1 w1 ho hb hg hat; have T1 := Aside0.mk (T0.out.push6 ho hb hg hat); clear ho hb hg hat)
              | (refine Kd.R_append (Kd.int .i64) (w0 := w) w.heap.size rfl (.tmp 52) (.tmp 53) 38 3 (.int .i64 0) 8 rfl Try.underlying38 info3 rfl (by decide) (by omega) u7 (L.map (·.f2)) 0 _ (fun _ => True) (fun _ => False) rfl rfl rfl (fun _ hk => hk.elim) (fun _ _ => trivial) T1.out.r7 T1.out.below (below_size T1.out.below) (by rw [List.length_map]; omega) ?_; intro y2 w2 ho hb hg hat; have T2 := Aside0.mk (T1.out.push7 ho hb hg hat); clear ho hb hg hat)
              | (refine Kd.R_append (Kd.int .i64) (w0 := w) w.heap.size rfl (.tmp 55) (.tmp 57) 38 3 (.int .i64 0) 8 rfl Try.underlying38 info3 rfl (by decide) (by omega) u8 (L.map (·.f3)) n _ (fun _ => True) (fun _ => False) rfl rfl rfl (fun _ hk => hk.elim) (fun _ _ => trivial) T2.out.r8 T2.out.below (below_size T2.out.below) (by rw [List.length_map]; omega) ?_; intro y3 w3 ho hb hg hat; have T3 := Aside0.mk (T2.out.push8 ho hb hg hat); clear ho hb hg hat))
            exact ⟨⟨i + 1, s ++ [10], L ++ [⟨4, bs [], 0, n⟩], n + 1, ⟨⟨HLN.out, three_snoc ⟨4, bs [], 0, n⟩ T3.out⟩⟩, congrArg Value.string (bs_append s [10]), rfl, by rw [lastEnd_snoc]; rfl, by go_num, by omega, by omega, by simp only [List.length_append, List.length_singleton, List.length_cons, List.length_nil] at *; omega, by simp only [List.length_append, List.length_singleton]; omega, by omega, by omega⟩, by simp only [intOf]; omega⟩
          · have hsh : shutL n L = L := if_pos hle
            have HLN := Aside0.mk (show Ln (s ++ [10]) L (n + 1) by have h := HA.out.ln.newline; rw [hsh] at h; exact h)
            clear hsh HA
            go_wp2
            exact ⟨⟨i + 1, s ++ [10], L, n + 1, ⟨⟨HLN.out, T0.out⟩⟩, congrArg Value.string (bs_append s [10]), rfl, by rw [hle]; rfl, by go_num, by omega, by omega, by simp only [List.length_append, List.length_singleton]; omega, by omega, by omega, by omega⟩, by simp only [intOf]; omega⟩
        · obtain ⟨m, hm'⟩ : ∃ m, v / 4 % 3 = m := ⟨_, rfl⟩
          have m0 : 0 ≤ m := by omega
          have m1 : m ≤ 2 := by omega
          have hsl := abc_slice m m0 m1
          obtain ⟨M, hM⟩ : ∃ M, m.toNat = M := ⟨_, rfl⟩
          rw [hM] at hsl
          obtain ⟨w0, w1, w2⟩ := abc_ok M
          have HLN := Aside0.mk (HA.out.ln.word (abc M) w0 w1)
          obtain ⟨P, hP⟩ : ∃ P, (bs (32 :: abc M)).size = P := ⟨_, rfl⟩
          have hP2 : P ≤ 4 := by rw [← hP, bs_size, List.length_cons]; omega
          have HP := Aside0.mk (show (32 :: abc M).length ≤ 4 by rw [List.length_cons]; omega)
          have q1 : ¬ (9223372036854775807 < s.length + P) := by omega
          clear w0 w1 w2 HA m0 m1 hM
          go_wp2_with (at_builtin; first
            | (refine Kd.R_append (Kd.int .i64) (w0 := w) w.heap.size rfl (.tmp 70) (.tmp 71) 38 3 (.int .i64 0) 8 rfl Try.underlying38 info3 rfl (by decide) (by omega) u6 (L.map (·.f0)) 1 _ (fun _ => True) (fun _ => False) rfl rfl rfl (fun _ hk => hk.elim) (fun _ _ => trivial) T0.out.r6 T0.out.below (below_size T0.out.below) (by rw [List.length_map]; omega) ?_; intro y1 w1 ho hb hg hat; have T1 := Aside0.mk (T0.out.push6 ho hb hg hat); clear ho hb hg hat)
            | (refine Kd.R_append (Kd.int .i64) (w0 := w) w.heap.size rfl (.tmp 73) (.tmp 74) 38 3 (.int .i64 0) 8 rfl Try.underlying38 info3 rfl (by decide) (by omega) u7 (L.map (·.f2)) 0 _ (fun _ => True) (fun _ => False) rfl rfl rfl (fun _ hk => hk.elim) (fun _ _ => trivial) T1.out.r7 T1.out.below (below_size T1.out.below) (by rw [List.length_map]; omega) ?_; intro y2 w2 ho hb hg hat; have T2 := Aside0.mk (T1.out.push7 ho hb hg hat); clear ho hb hg hat)
            | (refine Kd.R_append (Kd.int .i64) (w0 := w) w.heap.size rfl (.tmp 76) (.tmp 78) 38 3 (.int .i64 0) 8 rfl Try.underlying38 info3 rfl (by decide) (by omega) u8 (L.map (·.f3)) n _ (fun _ => True) (fun _ => False) rfl rfl rfl (fun _ hk => hk.elim) (fun _ _ => trivial) T2.out.r8 T2.out.below (below_size T2.out.below) (by rw [List.length_map]; omega) ?_; intro y3 w3 ho hb hg hat; have T3 := Aside0.mk (T2.out.push8 ho hb hg hat); clear ho hb hg hat))
          have hp := HP.out
          exact ⟨⟨i + 1, s ++ 32 :: abc M, L ++ [⟨1, bs (abc M), 0, n⟩], n, ⟨⟨HLN.out, three_snoc ⟨1, bs (abc M), 0, n⟩ T3.out⟩⟩, congrArg Value.string (bs_append s (32 :: abc M)), rfl, by rw [lastEnd_snoc]; rfl, by go_num, by omega, by omega, by simp only [List.length_append, List.length_singleton, List.length_cons, List.length_nil] at *; omega, by simp only [List.length_append, List.length_singleton]; omega, by omega, by omega⟩, by simp only [intOf]; omega⟩
        · obtain ⟨k, hk'⟩ : ∃ k, v / 4 % 10 = k := ⟨_, rfl⟩
          have k0 : 0 ≤ k := by omega
          have k1 : k ≤ 9 := by omega
          have hsl := dig_slice k k0 k1
          have hcn := (ch_nat (48 + k) (by omega) (by omega)).1
          obtain ⟨d, hd⟩ : ∃ d, ch (48 + k) = d := ⟨_, rfl⟩
          rw [hd] at hsl hcn
          have HLN := Aside0.mk (show Ln (s ++ [32, d]) (L ++ [⟨2, bs [], k, n⟩]) n by
            have h := HA.out.ln.num d ⟨by omega, by omega⟩
            rw [show (d.toNat : Int) - 48 = k by omega] at h
            exact h)
          have hP : (bs [d]).size = 1 := rfl
          have q1 : ¬ (9223372036854775807 < s.length + 1) := by omega
          have q2 : ¬ (9223372036854775807 < s.length + 1 + 1) := by omega
          have hwk : wrap64 (k + 1) = k + 1 := wrap64_id _ (by omega)
          clear HA hcn hd
          go_wp2_with (at_builtin; first
            | (refine Kd.R_append (Kd.int .i64) (w0 := w) w.heap.size rfl (.tmp 93) (.tmp 94) 38 3 (.int .i64 0) 8 rfl Try.underlying38 info3 rfl (by decide) (by omega) u6 (L.map (·.f0)) 2 _ (fun _ => True) (fun _ => False) rfl rfl rfl (fun _ hk => hk.elim) (fun _ _ => trivial) T0.out.r6 T0.out.below (below_size T0.out.below) (by rw [List.length_map]; omega) ?_; intro y1 w1 ho hb hg hat; have T1 := Aside0.mk (T0.out.push6 ho hb hg hat); clear ho hb hg hat)
            | (refine Kd.R_append (Kd.int .i64) (w0 := w) w.heap.size rfl (.tmp 96) (.tmp 100) 38 3 (.int .i64 0) 8 rfl Try.underlying38 info3 rfl (by decide) (by omega) u7 (L.map (·.f2)) k _ (fun _ => True) (fun _ => False) rfl rfl rfl (fun _ hk => hk.elim) (fun _ _ => trivial) T1.out.r7 T1.out.below (below_size T1.out.below) (by rw [List.length_map]; omega) ?_; intro y2 w2 ho hb hg hat; have T2 := Aside0.mk (T1.out.push7 ho hb hg hat); clear ho hb hg hat)
            | (refine Kd.R_append (Kd.int .i64) (w0 := w) w.heap.size rfl (.tmp 102) (.tmp 104) 38 3 (.int .i64 0) 8 rfl Try.underlying38 info3 rfl (by decide) (by omega) u8 (L.map (·.f3)) n _ (fun _ => True) (fun _ => False) rfl rfl rfl (fun _ hk => hk.elim) (fun _ _ => trivial) T2.out.r8 T2.out.below (below_size T2.out.below) (by rw [List.length_map]; omega) ?_; intro y3 w3 ho hb hg hat; have T3 := Aside0.mk (T2.out.push8 ho hb hg hat); clear ho hb hg hat))
          exact ⟨⟨i + 1, s ++ [32, d], L ++ [⟨2, bs [], k, n⟩], n, ⟨⟨HLN.out, three_snoc ⟨2, bs [], k, n⟩ T3.out⟩⟩, congrArg Value.string ((congrArg (· ++ bs [d]) (bs_append s [32])).trans ((bs_append (s ++ [32]) [d]).trans (by rw [List.append_assoc]; rfl))), rfl, by rw [lastEnd_snoc]; rfl, by go_num, by omega, by omega, by simp only [List.length_append, List.length_singleton, List.length_cons, List.length_nil] at *; omega, by simp only [List.length_append, List.length_singleton]; omega, by omega, by omega⟩, by simp only [intOf]; omega⟩
        · have q1 : ¬ (9223372036854775807 < s.length + 1) := by omega
          have HLN := Aside0.mk HA.out.ln.sign
          clear HA
          go_wp2_with (at_builtin; first
            | (refine Kd.R_append (Kd.int .i64) (w0 := w) w.heap.size rfl (.tmp 34) (.tmp 35) 38 3 (.int .i64 0) 8 rfl Try.underlying38 info3 rfl (by decide) (by omega) u6 (L.map (·.f0)) 3 _ (fun _ => True) (fun _ => False) rfl rfl rfl (fun _ hk => hk.elim) (fun _ _ => trivial) T0.out.r6 T0.out.below (below_size T0.out.below) (by rw [List.length_map]; omega) ?_; intro y1 w1 ho hb hg hat; have T1 := Aside0.mk (T0.out.push6 ho hb hg hat); clear ho hb hg hat)
            | (refine Kd.R_append (Kd.int .i64) (w0 := w) w.heap.size rfl (.tmp 37) (.tmp 38) 38 3 (.int .i64 0) 8 rfl Try.underlying38 info3 rfl (by decide) (by omega) u7 (L.map (·.f2)) 0 _ (fun _ => True) (fun _ => False) rfl rfl rfl (fun _ hk => hk.elim) (fun _ _ => trivial) T1.out.r7 T1.out.below (below_size T1.out.below) (by rw [List.length_map]; omega) ?_; intro y2 w2 ho hb hg hat; have T2 := Aside0.mk (T1.out.push7 ho hb hg hat); clear ho hb hg hat)
            | (refine Kd.R_append (Kd.int .i64) (w0 := w) w.heap.size rfl (.tmp 40) (.tmp 42) 38 3 (.int .i64 0) 8 rfl Try.underlying38 info3 rfl (by decide) (by omega) u8 (L.map (·.f3)) n _ (fun _ => True) (fun _ => False) rfl rfl rfl (fun _ hk => hk.elim) (fun _ _ => trivial) T2.out.r8 T2.out.below (below_size T2.out.below) (by rw [List.length_map]; omega) ?_; intro y3 w3 ho hb hg hat; have T3 := Aside0.mk (T2.out.push8 ho hb hg hat); clear ho hb hg hat))
          exact ⟨⟨i + 1, s ++ [44], L ++ [⟨3, bs [44], 0, n⟩], n, ⟨⟨HLN.out, three_snoc ⟨3, bs [44], 0, n⟩ T3.out⟩⟩, congrArg Value.string (bs_append s [44]), rfl, by rw [lastEnd_snoc]; rfl, by go_num, by omega, by omega, by simp only [List.length_append, List.length_singleton, List.length_cons, List.length_nil] at *; omega, by simp only [List.length_append, List.length_singleton]; omega, by omega, by omega⟩, by simp only [intOf]; omega⟩
      · have hfin := HA.out.ln.fin (by omega)
        have T0 := Aside0.mk HA.out.three
        rcases hle : lastEnd L
        · have hsh : shutL n L = L ++ [⟨4, bs [], 0, n⟩] := if_neg (by rw [hle]; exact Bool.false_ne_true)
          rw [hsh] at hfin
          obtain ⟨M, hM⟩ : ∃ M, L ++ [(⟨4, bs [], 0, n⟩ : S31)] = M := ⟨_, rfl⟩
          rw [hM] at hfin
          have HM := Aside0.mk hfin
          have hML : M.length = L.length + 1 := by rw [← hM, List.length_append]; rfl
          have HM2 := Aside0.mk hM
          have HML := Aside0.mk hML
          clear hsh HA hfin hle hM hML
          go_wp2_with (at_builtin; first
            | (refine Kd.R_append (Kd.int .i64) (w0 := w) w.heap.size rfl (.tmp 107) (.tmp 108) 38 3 (.int .i64 0) 8 rfl Try.underlying38 info3 rfl (by decide) (by omega) u6 (L.map (·.f0)) 4 _ (fun _ => True) (fun _ => False) rfl rfl rfl (fun _ hk => hk.elim) (fun _ _ => trivial) T0.out.r6 T0.out.below (below_size T0.out.below) (by rw [List.length_map]; omega) ?_; intro y1 w1 ho hb hg hat; have T1 := Aside0.mk (T0.out.push6 ho hb hg hat); clear ho hb hg hat)
            | (refine Kd.R_append (Kd.int .i64) (w0 := w) w.heap.size rfl (.tmp 110) (.tmp 111) 38 3 (.int .i64 0) 8 rfl Try.underlying38 info3 rfl (by decide) (by omega) u7 (L.map (·.f2)) 0 _ (fun _ => True) (fun _ => False) rfl rfl rfl (fun _ hk => hk.elim) (fun _ _ => trivial) T1.out.r7 T1.out.below (below_size T1.out.below) (by rw [List.length_map]; omega) ?_; intro y2 w2 ho hb hg hat; have T2 := Aside0.mk (T1.out.push7 ho hb hg hat); clear ho hb hg hat)
            | (refine Kd.R_append (Kd.int .i64) (w0 := w) w.heap.size rfl (.tmp 113) (.tmp 115) 38 3 (.int .i64 0) 8 rfl Try.underlying38 info3 rfl (by decide) (by omega) u8 (L.map (·.f3)) n _ (fun _ => True) (fun _ => False) rfl rfl rfl (fun _ hk => hk.elim) (fun _ _ => trivial) T2.out.r8 T2.out.below (below_size T2.out.below) (by rw [List.length_map]; omega) ?_; intro y3 w3 ho hb hg hat; have T3 := Aside0.mk (T2.out.push8 ho hb hg hat); clear ho hb hg hat))
          have T4 := Aside0.mk (show Three w w3 y1 y2 y3 (M.map (·.f0)) (M.map (·.f2)) (M.map (·.f3)) by rw [← HM2.out]; exact three_snoc _ T3.out)
          have hM := HML.out
          clear T3 T2 T1 T0
          refine (All_calls _ _).mono ?_
          rintro e wa ⟨hBa, hp⟩
          rw [HM.out] at hp
          obtain ⟨va, rfl, hRa, _⟩ := hp
          obtain ⟨Aa, ca, rfl⟩ := Kd.R_slice hRa
          obtain ⟨A6, c6, e6⟩ := Kd.R_slice T4.out.r6
          obtain ⟨A7, c7, e7⟩ := Kd.R_slice T4.out.r7
          obtain ⟨A8, c8, e8⟩ := Kd.R_slice T4.out.r8
          rw [List.length_map] at e6 e7 e8
          subst e6 e7 e8
          have RA := Aside0.mk hRa
          have R6 := Aside0.mk (Kd.R_below T4.out.r6 hBa)
          have R7 := Aside0.mk (Kd.R_below T4.out.r7 hBa)
          have R8 := Aside0.mk (Kd.R_below T4.out.r8 hBa)
          have HBa := Aside0.mk (below_step T4.out.below hBa)
          have HL := Aside0.mk (show M.length ≤ 100 by omega)
          clear hRa hBa T4 HM hM hs hL hi hid hn0 hn1 e1 hm
          go_wp2_with (fail)
          obtain ⟨wq, rfl⟩ : ∃ wq, wq = wa := ⟨_, rfl⟩
          go_loopw [14] (fun u w' => ∃ j : Nat, u = .int .i64 j ∧ j ≤ M.length ∧ Aside0 (Below wq.heap.size wq w')) (fun u _ => M.length - (intOf u).toNat)
          case atStart => exact ⟨0, rfl, by omega, ⟨Below.refl _ _⟩⟩
          case round =>
            obtain ⟨j, rfl, hj, HJ⟩ := hrel
            by_cases hl : j < M.length
            · obtain ⟨hx1, hx2, hCa⟩ := Kd.R_reads' (Kd.R_below RA.out HJ.out)
              obtain ⟨ad, rfl, a0, _, a2, a3⟩ := at_T31 hCa j (by omega) (by omega)
              obtain ⟨hx3, hx4, hC6⟩ := Kd.R_reads' (Kd.R_below R6.out HJ.out)
              obtain ⟨d6, rfl, b6⟩ := Kd.at_int hC6 j (by omega) (by rw [List.length_map]; omega)
              obtain ⟨hx5, hx6, hC7⟩ := Kd.R_reads' (Kd.R_below R7.out HJ.out)
              obtain ⟨d7, rfl, b7⟩ := Kd.at_int hC7 j (by omega) (by rw [List.length_map]; omega)
              obtain ⟨hx7, hx8, hC8⟩ := Kd.R_reads' (Kd.R_below R8.out HJ.out)
              obtain ⟨d8, rfl, b8⟩ := Kd.at_int hC8 j (by omega) (by rw [List.length_map]; omega)
              clear hx1 hx2 hx3 hx4 hx5 hx6 hx7 hx8 hCa hC6 hC7 hC8
              rw [rd_map _ M j hl, Int.toNat_natCast] at b6 b7 b8
              obtain ⟨nn, hnn⟩ : ∃ nn : Nat, ((j : Int)).toNat * 4 = nn := ⟨_, rfl⟩
              rw [hnn] at a0 a2 a3
              obtain ⟨y, hy⟩ : ∃ y, rd_T31 M j = y := ⟨_, rfl⟩
              rw [hy] at a0 a2 a3 b6 b7 b8
              have hia := fun (W : World) => ix22 ad M.length ca (j : Int) nn W (by omega) (by omega) hnn
              have hi6 := fun (W : World) => ix38 d6 M.length c6 (j : Int) j W (by omega) (by omega) (Int.toNat_natCast j)
              have hi7 := fun (W : World) => ix38 d7 M.length c7 (j : Int) j W (by omega) (by omega) (Int.toNat_natCast j)
              have hi8 := fun (W : World) => ix38 d8 M.length c8 (j : Int) j W (by omega) (by omega) (Int.toNat_natCast j)
              have HW5 := Aside0.mk (show wrap64 ((j : Int) + 1) = (j : Int) + 1 from wrap64_id _ (by have := HL.out; omega))
              clear hnn hy
              go_wp2_with (fail)
              go_quiet (fail)
              have hw5 := HW5.out
              go_wp2
              go_roundw
              case rel => exact ⟨j + 1, congrArg (Value.int .i64) (HW5.out.trans (Int.natCast_succ j).symm), Nat.succ_le_of_lt hl, ⟨pw_below_drewN HJ.out _⟩⟩
              case measure => exact meas1 hl HW5.out
            · go_wp2_with (fail)
              refine (awake_calls _).mono ?_
              rintro e wz ⟨rfl, hBz⟩
              have HBz := Aside0.mk (below_step (below_step HBa.out HJ.out) hBz)
              clear hBz
              go_wp2
              go_ret
              exact ⟨rfl, HBz.out⟩
        · have hsh : shutL n L = L := if_pos hle
          rw [hsh] at hfin
          have hM : L.length = L.length := rfl
          have HM := Aside0.mk hfin
          clear hsh HA hfin
          go_wp2_with (fail)
          clear hle
          refine (All_calls _ _).mono ?_
          rintro e wa ⟨hBa, hp⟩
          rw [HM.out] at hp
          obtain ⟨va, rfl, hRa, _⟩ := hp
          obtain ⟨Aa, ca, rfl⟩ := Kd.R_slice hRa
          obtain ⟨A6, c6, e6⟩ := Kd.R_slice T0.out.r6
          obtain ⟨A7, c7, e7⟩ := Kd.R_slice T0.out.r7
          obtain ⟨A8, c8, e8⟩ := Kd.R_slice T0.out.r8
          rw [List.length_map] at e6 e7 e8
          subst e6 e7 e8
          have RA := Aside0.mk hRa
          have R6 := Aside0.mk (Kd.R_below T0.out.r6 hBa)
          have R7 := Aside0.mk (Kd.R_below T0.out.r7 hBa)
          have R8 := Aside0.mk (Kd.R_below T0.out.r8 hBa)
          have HBa := Aside0.mk (below_step T0.out.below hBa)
          have HL := Aside0.mk (show L.length ≤ 100 by omega)
          clear hRa hBa T0 HM hM hs hL hi hid hn0 hn1 e1 hm
          go_wp2_with (fail)
          obtain ⟨wq, rfl⟩ : ∃ wq, wq = wa := ⟨_, rfl⟩
          go_loopw [14] (fun u w' => ∃ j : Nat, u = .int .i64 j ∧ j ≤ L.length ∧ Aside0 (Below wq.heap.size wq w')) (fun u _ => L.length - (intOf u).toNat)
          case atStart => exact ⟨0, rfl, by omega, ⟨Below.refl _ _⟩⟩
          case round =>
            obtain ⟨j, rfl, hj, HJ⟩ := hrel
            by_cases hl : j < L.length
            · obtain ⟨hx1, hx2, hCa⟩ := Kd.R_reads' (Kd.R_below RA.out HJ.out)
              obtain ⟨ad, rfl, a0, _, a2, a3⟩ := at_T31 hCa j (by omega) (by omega)
              obtain ⟨hx3, hx4, hC6⟩ := Kd.R_reads' (Kd.R_below R6.out HJ.out)
              obtain ⟨d6, rfl, b6⟩ := Kd.at_int hC6 j (by omega) (by rw [List.length_map]; omega)
              obtain ⟨hx5, hx6, hC7⟩ := Kd.R_reads' (Kd.R_below R7.out HJ.out)
              obtain ⟨d7, rfl, b7⟩ := Kd.at_int hC7 j (by omega) (by rw [List.length_map]; omega)
              obtain ⟨hx7, hx8, hC8⟩ := Kd.R_reads' (Kd.R_below R8.out HJ.out)
              obtain ⟨d8, rfl, b8⟩ := Kd.at_int hC8 j (by omega) (by rw [List.length_map]; omega)
              clear hx1 hx2 hx3 hx4 hx5 hx6 hx7 hx8 hCa hC6 hC7 hC8
              rw [rd_map _ L j hl, Int.toNat_natCast] at b6 b7 b8
              obtain ⟨nn, hnn⟩ : ∃ nn : Nat, ((j : Int)).toNat * 4 = nn := ⟨_, rfl⟩
              rw [hnn] at a0 a2 a3
              obtain ⟨y, hy⟩ : ∃ y, rd_T31 L j = y := ⟨_, rfl⟩
              rw [hy] at a0 a2 a3 b6 b7 b8
              have hia := fun (W : World) => ix22 ad L.length ca (j : Int) nn W (by omega) (by omega) hnn
              have hi6 := fun (W : World) => ix38 d6 L.length c6 (j : Int) j W (by omega) (by omega) (Int.toNat_natCast j)
              have hi7 := fun (W : World) => ix38 d7 L.length c7 (j : Int) j W (by omega) (by omega) (Int.toNat_natCast j)
              have hi8 := fun (W : World) => ix38 d8 L.length c8 (j : Int) j W (by omega) (by omega) (Int.toNat_natCast j)
              have HW5 := Aside0.mk (show wrap64 ((j : Int) + 1) = (j : Int) + 1 from wrap64_id _ (by have := HL.out; omega))
              clear hnn hy
              go_wp2_with (fail)
              go_quiet (fail)
              have hw5 := HW5.out
              go_wp2
              go_roundw
              case rel => exact ⟨j + 1, congrArg (Value.int .i64) (HW5.out.trans (Int.natCast_succ j).symm), Nat.succ_le_of_lt hl, ⟨pw_below_drewN HJ.out _⟩⟩
              case measure => exact meas1 hl HW5.out
            · go_wp2_with (fail)
              refine (awake_calls _).mono ?_
              rintro e wz ⟨rfl, hBz⟩
              have HBz := Aside0.mk (below_step (below_step HBa.out HJ.out) hBz)
              clear hBz
              go_wp2
              go_ret
              exact ⟨rfl, HBz.out⟩
    · have hfin := HA.out.ln.fin (by omega)
      have T0 := Aside0.mk HA.out.three
      rcases hle : lastEnd L
      · have hsh : shutL n L = L ++ [⟨4, bs [], 0, n⟩] := if_neg (by rw [hle]; exact Bool.false_ne_true)
        rw [hsh] at hfin
        obtain ⟨M, hM⟩ : ∃ M, L ++ [(⟨4, bs [], 0, n⟩ : S31)] = M := ⟨_, rfl⟩
        rw [hM] at hfin
        have HM := Aside0.mk hfin
        have hML : M.length = L.length + 1 := by rw [← hM, List.length_append]; rfl
        have HM2 := Aside0.mk hM
        have HML := Aside0.mk hML
        clear hsh HA hfin hle hM hML
        go_wp2_with (at_builtin; first
          | (refine Kd.R_append (Kd.int .i64) (w0 := w) w.heap.size rfl (.tmp 107) (.tmp 108) 38 3 (.int .i64 0) 8 rfl Try.underlying38 info3 rfl (by decide) (by omega) u6 (L.map (·.f0)) 4 _ (fun _ => True) (fun _ => False) rfl rfl rfl (fun _ hk => hk.elim) (fun _ _ => trivial) T0.out.r6 T0.out.below (below_size T0.out.below) (by rw [List.length_map]; omega) ?_; intro y1 w1 ho hb hg hat; have T1 := Aside0.mk (T0.out.push6 ho hb hg hat); clear ho hb hg hat)
          | (refine Kd.R_append (Kd.int .i64) (w0 := w) w.heap.size rfl (.tmp 110) (.tmp 111) 38 3 (.int .i64 0) 8 rfl Try.underlying38 info3 rfl (by decide) (by omega) u7 (L.map (·.f2)) 0 _ (fun _ => True) (fun _ => False) rfl rfl rfl (fun _ hk => hk.elim) (fun _ _ => trivial) T1.out.r7 T1.out.below (below_size T1.out.below) (by rw [List.length_map]; omega) ?_; intro y2 w2 ho hb hg hat; have T2 := Aside0.mk (T1.out.push7 ho hb hg hat); clear ho hb hg hat)
          | (refine Kd.R_append (Kd.int .i64) (w0 := w) w.heap.size rfl (.tmp 113) (.tmp 115) 38 3 (.int .i64 0) 8 rfl Try.underlying38 info3 rfl (by decide) (by omega) u8 (L.map (·.f3)) n _ (fun _ => True) (fun _ => False) rfl rfl rfl (fun _ hk => hk.elim) (fun _ _ => trivial) T2.out.r8 T2.out.below (below_size T2.out.below) (by rw [List.length_map]; omega) ?_; intro y3 w3 ho hb hg hat; have T3 := Aside0.mk (T2.out.push8 ho hb hg hat); clear ho hb hg hat))
        have T4 := Aside0.mk (show Three w w3 y1 y2 y3 (M.map (·.f0)) (M.map (·.f2)) (M.map (·.f3)) by rw [← HM2.out]; exact three_snoc _ T3.out)
        have hM := HML.out
        clear T3 T2 T1 T0
        refine (All_calls _ _).mono ?_
        rintro e wa ⟨hBa, hp⟩
        rw [HM.out] at hp
        obtain ⟨va, rfl, hRa, _⟩ := hp
        obtain ⟨Aa, ca, rfl⟩ := Kd.R_slice hRa
        obtain ⟨A6, c6, e6⟩ := Kd.R_slice T4.out.r6
        obtain ⟨A7, c7, e7⟩ := Kd.R_slice T4.out.r7
        obtain ⟨A8, c8, e8⟩ := Kd.R_slice T4.out.r8
        rw [List.length_map] at e6 e7 e8
        subst e6 e7 e8
        have RA := Aside0.mk hRa
        have R6 := Aside0.mk (Kd.R_below T4.out.r6 hBa)
        have R7 := Aside0.mk (Kd.R_below T4.out.r7 hBa)
        have R8 := Aside0.mk (Kd.R_below T4.out.r8 hBa)
        have HBa := Aside0.mk (below_step T4.out.below hBa)
        have HL := Aside0.mk (show M.length ≤ 100 by omega)
        clear hRa hBa T4 HM hM hs hL hi hid hn0 hn1 e1 hm
        go_wp2_with (fail)
        obtain ⟨wq, rfl⟩ : ∃ wq, wq = wa := ⟨_, rfl⟩
        go_loopw [14] (fun u w' => ∃ j : Nat, u = .int .i64 j ∧ j ≤ M.length ∧ Aside0 (Below wq.heap.size wq w')) (fun u _ => M.length - (intOf u).toNat)
        case atStart => exact ⟨0, rfl, by omega, ⟨Below.refl _ _⟩⟩
        case round =>
          obtain ⟨j, rfl, hj, HJ⟩ := hrel
          by_cases hl : j < M.length
          · obtain ⟨hx1, hx2, hCa⟩ := Kd.R_reads' (Kd.R_below RA.out HJ.out)
            obtain ⟨ad, rfl, a0, _, a2, a3⟩ := at_T31 hCa j (by omega) (by omega)
            obtain ⟨hx3, hx4, hC6⟩ := Kd.R_reads' (Kd.R_below R6.out HJ.out)
            obtain ⟨d6, rfl, b6⟩ := Kd.at_int hC6 j (by omega) (by rw [List.length_map]; omega)
            obtain ⟨hx5, hx6, hC7⟩ := Kd.R_reads' (Kd.R_below R7.out HJ.out)
            obtain ⟨d7, rfl, b7⟩ := Kd.at_int hC7 j (by omega) (by rw [List.length_map]; omega)
            obtain ⟨hx7, hx8, hC8⟩ := Kd.R_reads' (Kd.R_below R8.out HJ.out)
            obtain ⟨d8, rfl, b8⟩ := Kd.at_int hC8 j (by omega) (by rw [List.length_map]; omega)
            clear hx1 hx2 hx3 hx4 hx5 hx6 hx7 hx8 hCa hC6 hC7 hC8
            rw [rd_map _ M j hl, Int.toNat_natCast] at b6 b7 b8
            obtain ⟨nn, hnn⟩ : ∃ nn : Nat, ((j : Int)).toNat * 4 = nn := ⟨_, rfl⟩
            rw [hnn] at a0 a2 a3
            obtain ⟨y, hy⟩ : ∃ y, rd_T31 M j = y := ⟨_, rfl⟩
            rw [hy] at a0 a2 a3 b6 b7 b8
            have hia := fun (W : World) => ix22 ad M.length ca (j : Int) nn W (by omega) (by omega) hnn
            have hi6 := fun (W : World) => ix38 d6 M.length c6 (j : Int) j W (by omega) (by omega) (Int.toNat_natCast j)
            have hi7 := fun (W : World) => ix38 d7 M.length c7 (j : Int) j W (by omega) (by omega) (Int.toNat_natCast j)
            have hi8 := fun (W : World) => ix38 d8 M.length c8 (j : Int) j W (by omega) (by omega) (Int.toNat_natCast j)
            have HW5 := Aside0.mk (show wrap64 ((j : Int) + 1) = (j : Int) + 1 from wrap64_id _ (by have := HL.out; omega))
            clear hnn hy
            go_wp2_with (fail)
            go_quiet (fail)
            have hw5 := HW5.out
            go_wp2
            go_roundw
            case rel => exact ⟨j + 1, congrArg (Value.int .i64) (HW5.out.trans (Int.natCast_succ j).symm), Nat.succ_le_of_lt hl, ⟨pw_below_drewN HJ.out _⟩⟩
            case measure => exact meas1 hl HW5.out
          · go_wp2_with (fail)
            refine (awake_calls _).mono ?_
            rintro e wz ⟨rfl, hBz⟩
            have HBz := Aside0.mk (below_step (below_step HBa.out HJ.out) hBz)
            clear hBz
            go_wp2
            go_ret
            exact ⟨rfl, HBz.out⟩
      · have hsh : shutL n L = L := if_pos hle
        rw [hsh] at hfin
        have hM : L.length = L.length := rfl
        have HM := Aside0.mk hfin
        clear hsh HA hfin
        go_wp2_with (fail)
        clear hle
        refine (All_calls _ _).mono ?_
        rintro e wa ⟨hBa, hp⟩
        rw [HM.out] at hp
        obtain ⟨va, rfl, hRa, _⟩ := hp
        obtain ⟨Aa, ca, rfl⟩ := Kd.R_slice hRa
        obtain ⟨A6, c6, e6⟩ := Kd.R_slice T0.out.r6
        obtain ⟨A7, c7, e7⟩ := Kd.R_slice T0.out.r7
        obtain ⟨A8, c8, e8⟩ := Kd.R_slice T0.out.r8
        rw [List.length_map] at e6 e7 e8
        subst e6 e7 e8
        have RA := Aside0.mk hRa
        have R6 := Aside0.mk (Kd.R_below T0.out.r6 hBa)
        have R7 := Aside0.mk (Kd.R_below T0.out.r7 hBa)
        have R8 := Aside0.mk (Kd.R_below T0.out.r8 hBa)
        have HBa := Aside0.mk (below_step T0.out.below hBa)
        have HL := Aside0.mk (show L.length ≤ 100 by omega)
        clear hRa hBa T0 HM hM hs hL hi hid hn0 hn1 e1 hm
        go_wp2_with (fail)
        obtain ⟨wq, rfl⟩ : ∃ wq, wq = wa := ⟨_, rfl⟩
        go_loopw [14] (fun u w' => ∃ j : Nat, u = .int .i64 j ∧ j ≤ L.length ∧ Aside0 (Below wq.heap.size wq w')) (fun u _ => L.length - (intOf u).toNat)
        case atStart => exact ⟨0, rfl, by omega, ⟨Below.refl _ _⟩⟩
        case round =>
          obtain ⟨j, rfl, hj, HJ⟩ := hrel
          by_cases hl : j < L.length
          · obtain ⟨hx1, hx2, hCa⟩ := Kd.R_reads' (Kd.R_below RA.out HJ.out)
            obtain ⟨ad, rfl, a0, _, a2, a3⟩ := at_T31 hCa j (by omega) (by omega)
            obtain ⟨hx3, hx4, hC6⟩ := Kd.R_reads' (Kd.R_below R6.out HJ.out)
            obtain ⟨d6, rfl, b6⟩ := Kd.at_int hC6 j (by omega) (by rw [List.length_map]; omega)
            obtain ⟨hx5, hx6, hC7⟩ := Kd.R_reads' (Kd.R_below R7.out HJ.out)
            obtain ⟨d7, rfl, b7⟩ := Kd.at_int hC7 j (by omega) (by rw [List.length_map]; omega)
            obtain ⟨hx7, hx8, hC8⟩ := Kd.R_reads' (Kd.R_below R8.out HJ.out)
            obtain ⟨d8, rfl, b8⟩ := Kd.at_int hC8 j (by omega) (by rw [List.length_map]; omega)
            clear hx1 hx2 hx3 hx4 hx5 hx6 hx7 hx8 hCa hC6 hC7 hC8
            rw [rd_map _ L j hl, Int.toNat_natCast] at b6 b7 b8
            obtain ⟨nn, hnn⟩ : ∃ nn : Nat, ((j : Int)).toNat * 4 = nn := ⟨_, rfl⟩
            rw [hnn] at a0 a2 a3
            obtain ⟨y, hy⟩ : ∃ y, rd_T31 L j = y := ⟨_, rfl⟩
            rw [hy] at a0 a2 a3 b6 b7 b8
            have hia := fun (W : World) => ix22 ad L.length ca (j : Int) nn W (by omega) (by omega) hnn
            have hi6 := fun (W : World) => ix38 d6 L.length c6 (j : Int) j W (by omega) (by omega) (Int.toNat_natCast j)
            have hi7 := fun (W : World) => ix38 d7 L.length c7 (j : Int) j W (by omega) (by omega) (Int.toNat_natCast j)
            have hi8 := fun (W : World) => ix38 d8 L.length c8 (j : Int) j W (by omega) (by omega) (Int.toNat_natCast j)
            have HW5 := Aside0.mk (show wrap64 ((j : Int) + 1) = (j : Int) + 1 from wrap64_id _ (by have := HL.out; omega))
            clear hnn hy
            go_wp2_with (fail)
            go_quiet (fail)
            have hw5 := HW5.out
            go_wp2
            go_roundw
            case rel => exact ⟨j + 1, congrArg (Value.int .i64) (HW5.out.trans (Int.natCast_succ j).symm), Nat.succ_le_of_lt hl, ⟨pw_below_drewN HJ.out _⟩⟩
            case measure => exact meas1 hl HW5.out
          · go_wp2_with (fail)
            refine (awake_calls _).mono ?_
            rintro e wz ⟨rfl, hBz⟩
            have HBz := Aside0.mk (below_step (below_step HBa.out HJ.out) hBz)
            clear hBz
            go_wp2
            go_ret
            exact ⟨rfl, HBz.out⟩
end Go.Proofs.Ythnmaaoafogbiaa.LexLines
