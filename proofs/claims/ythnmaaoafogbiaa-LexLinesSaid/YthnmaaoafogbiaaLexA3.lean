/- The walk of the reference's All. -/
import Derived.Test.YthnmaaoafogbiaaLexA2
namespace Go.Proofs.Ythnmaaoafogbiaa.Lex
set_option linter.unusedSimpArgs false
set_option linter.unusedVariables false
open Go.RowKit Go.Proofs.YthnmaaoafogbiaaW.PrintWords Go.Proofs.YthnmaaoafogbiaaW.PrintLast Go.Proofs.YthnmaaoafogbiaaW.PrintMore PLexAll Go.Proofs.YthnmaaoafogbiaaW.Canon
attribute [local go_sem] max2_mx min2_mn max_two min_two max_three min_three max_four min_four

theorem info31 : (Try.prog.info? 31).map (fun i => (i.zero, i.size, i.bytes)) = some (some (.agg #[(.int .i64 0), (.string ⟨#[]⟩), (.int .i64 0), (.int .i64 0)]), 4, 40) := by kernel_rfl
/-- The post of the reference's All. -/
def RefPost (S : List UInt8) (w : World) (e : Ending) (w' : World) : Prop :=
  Below w.heap.size w w' ∧ match allT (bs S) with
  | .inl (n, er) => e = .returned (.tuple #[.slice none 0 0, .int .i64 n, .int .i64 er])
  | .inr l => ∃ v, e = .returned (.tuple #[v, .int .i64 0, .int .i64 0]) ∧ k31.R 31 w' w.heap.size (fun _ => True) v l ∧ l.length ≤ S.length + 1
/-- Where the reference stands. -/
def RefAt (S : List UInt8) (w : World) (i : Nat) (l : List S31) (n : Int) (v : Value) (w' : World) : Prop :=
  k31.R 31 w' w.heap.size (fun _ => True) v l ∧ Below w.heap.size w w' ∧ goT (S.drop i) (cleanT l n) = goT S x0
theorem lastEnd_snoc (l : List S31) (y : S31) : lastEnd (l ++ [y]) = (y.f0 == 4) := by rw [lastEnd_eq]; simp
theorem lastEnd_shutL (n : Int) (l : List S31) : lastEnd (shutL n l) = true := lastEnd_shut n l
theorem ref_bad {S : List UInt8} {w : World} (hl : S.length ≤ 8192) {n : Int} (h : goT S x0 = .inl n) {w' : World} (hb : Below w.heap.size w w') : RefPost S w (.returned (.tuple #[.slice none 0 0, .int .i64 n, .int .i64 3])) w' := by
  refine ⟨hb, ?_⟩
  rw [allT_inl hl h]
theorem ref_good {S : List UInt8} {w : World} (hl : S.length ≤ 8192) {y : TX} (h : goT S x0 = .inr y) {l : List S31} (hy : y.l = l) {v : Value} {w' : World} (hb : Below w.heap.size w w') (hR : k31.R 31 w' w.heap.size (fun _ => True) v l) (hn : l.length ≤ S.length + 1) :
    RefPost S w (.returned (.tuple #[v, .int .i64 0, .int .i64 0])) w' := by
  refine ⟨hb, ?_⟩
  rw [allT_inr hl h, hy]
  exact ⟨v, rfl, hR, hn⟩
theorem sl3 (S : List UInt8) (a b : Nat) (h : a ≤ b) (hb : b ≤ S.length) (W : World) : (Instr.slice 9 (.string (bs S)) (some (.int .i64 a)) (some (.int .i64 b)) none).run Try.prog W = .ok (.string (bs ((S.drop a).take (b - a)))) W := by
  have hsz : (bs S).size = S.length := bs_size S
  rw [run_slice_string (h := Try.underlying9) (h0 := by omega) (h1 := by omega) (h2 := by omega)]
  congr 2
  apply ByteArray.ext
  rw [ByteArray.data_extract]
  show (S.toArray).extract _ _ = ((S.drop a).take (b - a)).toArray
  simp
theorem take_len (p : UInt8 → Bool) (X : List UInt8) : X.take (X.takeWhile p).length = X.takeWhile p := by
  conv => lhs; rw [show X.take (X.takeWhile p).length = (X.takeWhile p ++ X.dropWhile p).take (X.takeWhile p).length by rw [List.takeWhile_append_dropWhile]]
  rw [List.take_left' rfl]




set_option maxRecDepth 20000 in
set_option maxHeartbeats 1000000 in
theorem Ref_calls (S : List UInt8) (w : World) : Calls Try.prog 10 #[.string (bs S)] w fun e w' => RefPost S w e w' := by
  have e1 : (bs S).size = S.length := bs_size S
  by_cases hS : 8192 < S.length
  · have E := Aside0.mk (show RefPost S w (.returned (.tuple #[.slice none 0 0, .int .i64 0, .int .i64 2])) w from ⟨Below.refl _ _, by rw [allT, if_pos (by rw [bs_size]; exact hS)]⟩)
    go_enter Try.func10, Try.ntmps10
    go_wp2
    go_ret3
    exact E.out
  go_enter Try.func10, Try.ntmps10
  go_wp2_with (fail)
  go_loopw [5, 6, 7, 8] (fun u5 u6 u7 u8 w' => ∃ (i : Nat) (l : List S31) (n : Int), RefAt S w i l n u5 w' ∧ u6 = .int .i64 n ∧ u7 = .bool (!lastEnd l) ∧ u8 = .int .i64 i ∧ i ≤ S.length ∧ l.length ≤ i ∧ 1 ≤ n ∧ n ≤ i + 1) (fun _ _ _ u8 _ => S.length - (intOf u8).toNat)
  case atStart => exact ⟨0, [], 1, ⟨Kd.R_nil _ _ _ _ _, Below.refl _ _, rfl⟩, rfl, rfl, rfl, by omega, by simp, by omega, by omega⟩
  case round =>
    obtain ⟨i, l, n, ⟨hR, hB, hG⟩, rfl, rfl, rfl, hiS, hli, hn0, hn1⟩ := hrel
    have HR := Aside0.mk hR
    have HB := Aside0.mk hB
    clear hR hB
    by_cases hi : i < S.length
    · have hbt := bs_get S i hi
      have hd := List.drop_eq_getElem_cons hi
      obtain ⟨c, hc⟩ : ∃ c, S[i]'hi = c := ⟨_, rfl⟩
      rw [hc] at hbt hd
      obtain ⟨r, hr⟩ : ∃ r : Int, (c.toNat : Int) = r := ⟨_, rfl⟩
      have hbt2 : (((bs S)[i]'(show i < (bs S).size by rw [bs_size]; exact hi)).toNat : Int) = r := by rw [hbt, hr]
      have HG := Aside0.mk hG
      have HD := Aside0.mk hd
      have HC := Aside0.mk hr
      have r0 : 0 ≤ r := by omega
      clear hbt hG hd hc hr
      by_cases k1 : r = 32 ∨ r = 9 ∨ r = 13
      · have HG2 := Aside0.mk (show goT (S.drop (i + 1)) (cleanT l n) = goT S x0 by rw [← HG.out, HD.out, go_blank (by have := HC.out; omega)])
        rcases k1 with rfl | rfl | rfl
        · go_wp2
          exact ⟨⟨i + 1, l, n, ⟨HR.out, HB.out, HG2.out⟩, rfl, rfl, by first | rfl | go_num, by omega, by omega, by omega, by omega⟩, by simp only [intOf]; omega⟩
        · go_wp2
          exact ⟨⟨i + 1, l, n, ⟨HR.out, HB.out, HG2.out⟩, rfl, rfl, by first | rfl | go_num, by omega, by omega, by omega, by omega⟩, by simp only [intOf]; omega⟩
        · go_wp2
          exact ⟨⟨i + 1, l, n, ⟨HR.out, HB.out, HG2.out⟩, rfl, rfl, by first | rfl | go_num, by omega, by omega, by omega, by omega⟩, by simp only [intOf]; omega⟩
      obtain ⟨t1, t2, t3⟩ : (r == 32) = false ∧ (r == 9) = false ∧ (r == 13) = false := by simp only [beq_eq_false_iff_ne, ne_eq]; omega
      by_cases k2 : r = 35
      · subst k2
        obtain ⟨N, hN⟩ : ∃ N, ((S.drop i).takeWhile isN).length = N := ⟨_, rfl⟩
        have hc35 : c = 35 := UInt8.toNat_inj.mp (by have := HC.out; have h35 : (35 : UInt8).toNat = 35 := rfl; omega)
        have hN1 : 1 ≤ N := by
          rw [← hN, HD.out, hc35, List.takeWhile_cons_of_pos (by decide), List.length_cons]
          omega
        have hN2 := tw_len isN S i (by omega)
        rw [hN] at hN2
        have HG2 := Aside0.mk (show goT (S.drop (i + N)) (cleanT l n) = goT S x0 by rw [← HG.out, go_note (S.drop i) ⟨S.drop (i + 1), by rw [HD.out, hc35]⟩, hN, List.drop_drop])
        have HN := Aside0.mk hN
        clear hc35 hN
        go_wp2_with (fail)
        go_loopw [8] (fun u w' => ∃ k : Nat, u = .int .i64 ((i + k : Nat) : Int) ∧ k ≤ N ∧ w' = wr) (fun u _ => S.length - (intOf u).toNat)
        case atStart => exact ⟨0, by simp, by omega, rfl⟩
        case round =>
          obtain ⟨k, rfl, hk, rfl⟩ := hrel
          by_cases hlt : k < N
          · obtain ⟨h2, h3, h4, h5⟩ := tw_in isN S i k (by rw [HN.out]; exact hlt)
            have hb2 := bs_get S (i + k) h2
            have t10 : ((((bs S)[i + k]'(show i + k < (bs S).size by rw [bs_size]; exact h2)).toNat : Int) == 10) = false := beq_eq_false_iff_ne.mpr (by rw [hb2]; simp [isN] at h4; omega)
            clear h3 h4 h5 hb2
            go_wp2
            exact ⟨⟨k + 1, by go_num, by omega, trivial⟩, by simp only [intOf]; omega⟩
          · obtain rfl : k = N := by omega
            have ht := tw_out isN S i
            rw [HN.out] at ht
            by_cases hend : i + k < S.length
            · rw [headIs_drop _ S (i + k) hend] at ht
              have hb2 := bs_get S (i + k) hend
              have t10 : ((((bs S)[i + k]'(show i + k < (bs S).size by rw [bs_size]; exact hend)).toNat : Int) == 10) = true := beq_iff_eq.mpr (by rw [hb2]; simp [isN] at ht; omega)
              clear ht hb2
              go_wp2
              exact ⟨⟨i + k, l, n, ⟨HR.out, HB.out, HG2.out⟩, rfl, rfl, by first | rfl | go_num, by omega, by omega, by omega, by omega⟩, by simp only [intOf]; omega⟩
            · clear ht
              go_wp2
              exact ⟨⟨i + k, l, n, ⟨HR.out, HB.out, HG2.out⟩, rfl, rfl, by first | rfl | go_num, by omega, by omega, by omega, by omega⟩, by simp only [intOf]; omega⟩
      have t4 : (r == 35) = false := beq_eq_false_iff_ne.mpr k2
      by_cases k3 : r = 10
      · subst k3
        have hc10 : c = 10 := UInt8.toNat_inj.mp (by have := HC.out; have h35 : (10 : UInt8).toNat = 10 := rfl; omega)
        have HG2 := Aside0.mk (show goT (S.drop (i + 1)) (cleanT (shutL n l) (n + 1)) = goT S x0 by rw [← HG.out, HD.out, hc10, go_newline])
        clear hc10
        have hwn : wrap64 (n + 1) = n + 1 := wrap64_id _ (by omega)
        rcases hle : lastEnd l
        · have hsh : shutL n l = l ++ [⟨4, bs [], 0, n⟩] := if_neg (by rw [hle]; exact Bool.false_ne_true)
          rw [hsh] at HG2
          clear hsh
          go_wp2_with (at_builtin; refine Kd.R_append k31 (w0 := w) w.heap.size rfl (.tmp 63) (.tmp 66) 26 31 (.agg #[(.int .i64 0), (.string ⟨#[]⟩), (.int .i64 0), (.int .i64 0)]) 40 rfl Try.underlying26 info31 rfl (by decide) (by omega) _ l ⟨4, (bs []), 0, n⟩ [.int .i64 4, .string (bs []), .int .i64 0, .int .i64 n] (fun _ => True) (fun _ => False) rfl rfl (k31_mkM _ _ _ ⟨4, (bs []), 0, n⟩) (fun _ hk => hk.elim) (fun _ _ => trivial) HR.out HB.out (below_size HB.out) (by omega) ?_; intro v1 w1 ho hb _ _; have HR1 := Aside0.mk ho; have HB1 := Aside0.mk hb; clear ho hb)
          exact ⟨⟨i + 1, l ++ [⟨4, bs [], 0, n⟩], n + 1, ⟨HR1.out, HB1.out, HG2.out⟩, rfl, by rw [lastEnd_snoc]; rfl, by first | rfl | go_num, by omega, by simp only [List.length_append, List.length_singleton]; omega, by omega, by omega⟩, by simp only [intOf]; omega⟩
        · have hsh : shutL n l = l := if_pos hle
          rw [hsh] at HG2
          clear hsh
          go_wp2
          exact ⟨⟨i + 1, l, n + 1, ⟨HR.out, HB.out, HG2.out⟩, rfl, by rw [hle]; rfl, by first | rfl | go_num, by omega, by omega, by omega, by omega⟩, by simp only [intOf]; omega⟩
      have t5 : (r == 10) = false := beq_eq_false_iff_ne.mpr k3
      have hLB : headIs isLB (S.drop i) = isLB c := by rw [HD.out]; rfl
      have hDB : headIs isDB (S.drop i) = isDB c := by rw [HD.out]; rfl
      rcases hlb : isLB c
      · rw [hlb] at hLB
        go_wp2_with (fail)
        refine (letter_calls S i _).mono ?_
        rintro e w' ⟨rfl, rfl⟩
        rw [hLB]
        go_wp2_with (fail)
        refine (digit_calls S i _).mono ?_
        rintro e w' ⟨rfl, rfl⟩
        rw [hDB]
        rcases hdb : isDB c
        · by_cases k4 : r = 45
          · subst k4
            have hc45 : c = 45 := UInt8.toNat_inj.mp (by have := HC.out; have h35 : (45 : UInt8).toNat = 45 := rfl; omega)
            have hsc : S[i]'hi = c := by
              have := List.drop_eq_getElem_cons hi
              rw [HD.out] at this
              exact (List.cons.inj this).1.symm
            have hY := go_number (S.drop i) true (S.drop (i + 1)) (show S.drop i = 45 :: S.drop (i + 1) by rw [HD.out, hc45]) l n
            have hnum := fun W => number_calls S i hi (by omega) true (by rw [hsc, hc45]; rfl) (i + 1) rfl W
            have hgt : i < i + 1 + ((S.drop (i + 1)).takeWhile isDB).length := by omega
            have hlen := tw_len isDB S (i + 1) (by omega)
            obtain ⟨ds, hds⟩ : ∃ ds, (S.drop (i + 1)).takeWhile isDB = ds := ⟨_, rfl⟩
            rw [hds] at hY hlen hgt
            rw [List.drop_drop] at hY
            rw [hds] at hnum
            have HY := Aside0.mk hY
            have HNUM := Aside0.mk hnum
            have HGT := Aside0.mk hgt
            clear hY hnum hds hsc hLB hDB hlb hdb hgt hc45
            go_wp2_with (fail)
            refine (HNUM.out _).mono ?_
            rintro e w2 ⟨rfl, hb2⟩
            have HR2 := Aside0.mk (Kd.R_below HR.out hb2)
            have HB2 := Aside0.mk (below_step HB.out hb2)
            clear hb2 HR HB HNUM
            rcases hok : numOk true ds (S.drop ((i + 1) + ds.length))
            · have HE := Aside0.mk (show goT S x0 = .inl n by rw [← HG.out]; exact HY.out.1 hok)
              clear hok
              go_wp2
              go_ret3
              exact ref_bad (by omega) HE.out HB2.out
            · obtain ⟨V, hV⟩ : ∃ V, numV true ds = V := ⟨_, rfl⟩
              have HG2 := Aside0.mk (show goT (S.drop ((i + 1) + ds.length)) (cleanT (l ++ [⟨2, bs [], V, n⟩]) n) = goT S x0 by rw [← HG.out, ← hV]; exact (HY.out.2 hok).symm)
              rw [hV]
              clear hok hV HY
              have HR := HR2
              have HB := HB2
              clear HR2 HB2
              go_wp2_with (at_builtin; refine Kd.R_append k31 (w0 := w) w.heap.size rfl (.tmp 115) (.tmp 119) 26 31 (.agg #[(.int .i64 0), (.string ⟨#[]⟩), (.int .i64 0), (.int .i64 0)]) 40 rfl Try.underlying26 info31 rfl (by decide) (by omega) _ l ⟨2, (bs []), V, n⟩ [.int .i64 2, .string (bs []), .int .i64 V, .int .i64 n] (fun _ => True) (fun _ => False) rfl rfl (k31_mkM _ _ _ ⟨2, (bs []), V, n⟩) (fun _ hk => hk.elim) (fun _ _ => trivial) HR.out HB.out (below_size HB.out) (by omega) ?_; intro v1 w1 ho hb _ _; have HR1 := Aside0.mk ho; have HB1 := Aside0.mk hb; clear ho hb)
              have hgt := HGT.out
              exact ⟨⟨(i + 1) + ds.length, l ++ [⟨2, bs [], V, n⟩], n, ⟨HR1.out, HB1.out, HG2.out⟩, rfl, by rw [lastEnd_snoc]; rfl, by first | rfl | go_num, by omega, by simp only [List.length_append, List.length_singleton]; omega, by omega, by omega⟩, by simp only [intOf]; omega⟩
          have t6 : (r == 45) = false := beq_eq_false_iff_ne.mpr k4
          by_cases k5 : r = 58 ∨ r = 44
          · have HG2 := Aside0.mk (show goT (S.drop (i + 1)) (cleanT (l ++ [⟨3, bs [c], 0, n⟩]) n) = goT S x0 by rw [← HG.out, HD.out, go_sign (by have := HC.out; omega)])
            have hsl : ∀ W, (Instr.slice 9 (.string (bs S)) (some (.int .i64 i)) (some (.int .i64 ((i : Int) + 1))) none).run Try.prog W = .ok (.string (bs [c])) W := fun W => by
              have h := sl3 S i (i + 1) (by omega) (by omega) W
              rw [HD.out, show i + 1 - i = 1 by omega] at h
              exact h
            have hwi : wrap64 ((i : Int) + 1) = (i : Int) + 1 := wrap64_id _ (by omega)
            clear hLB hDB hlb hdb
            rcases k5 with rfl | rfl
            · go_wp2_with (at_builtin; refine Kd.R_append k31 (w0 := w) w.heap.size rfl (.tmp 133) (.tmp 141) 26 31 (.agg #[(.int .i64 0), (.string ⟨#[]⟩), (.int .i64 0), (.int .i64 0)]) 40 rfl Try.underlying26 info31 rfl (by decide) (by omega) _ l ⟨3, (bs [c]), 0, n⟩ [.int .i64 3, .string (bs [c]), .int .i64 0, .int .i64 n] (fun _ => True) (fun _ => False) rfl rfl (k31_mkM _ _ _ ⟨3, (bs [c]), 0, n⟩) (fun _ hk => hk.elim) (fun _ _ => trivial) HR.out HB.out (below_size HB.out) (by omega) ?_; intro v1 w1 ho hb _ _; have HR1 := Aside0.mk ho; have HB1 := Aside0.mk hb; clear ho hb)
              exact ⟨⟨i + 1, l ++ [⟨3, bs [c], 0, n⟩], n, ⟨HR1.out, HB1.out, HG2.out⟩, rfl, by rw [lastEnd_snoc]; rfl, by first | rfl | go_num, by omega, by simp only [List.length_append, List.length_singleton]; omega, by omega, by omega⟩, by simp only [intOf]; omega⟩
            · go_wp2_with (at_builtin; refine Kd.R_append k31 (w0 := w) w.heap.size rfl (.tmp 133) (.tmp 141) 26 31 (.agg #[(.int .i64 0), (.string ⟨#[]⟩), (.int .i64 0), (.int .i64 0)]) 40 rfl Try.underlying26 info31 rfl (by decide) (by omega) _ l ⟨3, (bs [c]), 0, n⟩ [.int .i64 3, .string (bs [c]), .int .i64 0, .int .i64 n] (fun _ => True) (fun _ => False) rfl rfl (k31_mkM _ _ _ ⟨3, (bs [c]), 0, n⟩) (fun _ hk => hk.elim) (fun _ _ => trivial) HR.out HB.out (below_size HB.out) (by omega) ?_; intro v1 w1 ho hb _ _; have HR1 := Aside0.mk ho; have HB1 := Aside0.mk hb; clear ho hb)
              exact ⟨⟨i + 1, l ++ [⟨3, bs [c], 0, n⟩], n, ⟨HR1.out, HB1.out, HG2.out⟩, rfl, by rw [lastEnd_snoc]; rfl, by first | rfl | go_num, by omega, by simp only [List.length_append, List.length_singleton]; omega, by omega, by omega⟩, by simp only [intOf]; omega⟩
          obtain ⟨t7, t8⟩ : (r == 58) = false ∧ (r == 44) = false := by simp only [beq_eq_false_iff_ne, ne_eq]; omega
          have HE := Aside0.mk (show goT S x0 = .inl n by
            rw [← HG.out, HD.out]
            have := HC.out
            exact go_bad (by omega) hlb hdb (by omega) (by omega) (by omega) (by omega) _ l n)
          clear hLB hDB hlb hdb
          go_wp2
          go_ret3
          exact ref_bad (by omega) HE.out HB.out
        · have hsc : S[i]'hi = c := by
            have := List.drop_eq_getElem_cons hi
            rw [HD.out] at this
            exact (List.cons.inj this).1.symm
          have hc45 : ¬ c = 45 := by
            rintro rfl
            exact absurd hdb (by decide)
          have hY := go_number (S.drop i) false (S.drop i) ⟨rfl, by rw [hDB, hdb]⟩ l n
          have hnum := fun W => number_calls S i hi (by omega) false (by rw [hsc]; exact beq_eq_false_iff_ne.mpr hc45) i rfl W
          have hgt : i < i + ((S.drop i).takeWhile isDB).length := by
            rw [HD.out, List.takeWhile_cons_of_pos hdb, List.length_cons]
            omega
          have hlen := tw_len isDB S i (by omega)
          obtain ⟨ds, hds⟩ : ∃ ds, (S.drop i).takeWhile isDB = ds := ⟨_, rfl⟩
          rw [hds] at hY hlen hgt
          rw [List.drop_drop] at hY
          rw [hds] at hnum
          have HY := Aside0.mk hY
          have HNUM := Aside0.mk hnum
          have HGT := Aside0.mk hgt
          clear hY hnum hds hsc hLB hDB hlb hdb hgt hc45
          go_wp2_with (fail)
          refine (HNUM.out _).mono ?_
          rintro e w2 ⟨rfl, hb2⟩
          have HR2 := Aside0.mk (Kd.R_below HR.out hb2)
          have HB2 := Aside0.mk (below_step HB.out hb2)
          clear hb2 HR HB HNUM
          rcases hok : numOk false ds (S.drop (i + ds.length))
          · have HE := Aside0.mk (show goT S x0 = .inl n by rw [← HG.out]; exact HY.out.1 hok)
            clear hok
            go_wp2
            go_ret3
            exact ref_bad (by omega) HE.out HB2.out
          · obtain ⟨V, hV⟩ : ∃ V, numV false ds = V := ⟨_, rfl⟩
            have HG2 := Aside0.mk (show goT (S.drop (i + ds.length)) (cleanT (l ++ [⟨2, bs [], V, n⟩]) n) = goT S x0 by rw [← HG.out, ← hV]; exact (HY.out.2 hok).symm)
            rw [hV]
            clear hok hV HY
            have HR := HR2
            have HB := HB2
            clear HR2 HB2
            go_wp2_with (at_builtin; refine Kd.R_append k31 (w0 := w) w.heap.size rfl (.tmp 115) (.tmp 119) 26 31 (.agg #[(.int .i64 0), (.string ⟨#[]⟩), (.int .i64 0), (.int .i64 0)]) 40 rfl Try.underlying26 info31 rfl (by decide) (by omega) _ l ⟨2, (bs []), V, n⟩ [.int .i64 2, .string (bs []), .int .i64 V, .int .i64 n] (fun _ => True) (fun _ => False) rfl rfl (k31_mkM _ _ _ ⟨2, (bs []), V, n⟩) (fun _ hk => hk.elim) (fun _ _ => trivial) HR.out HB.out (below_size HB.out) (by omega) ?_; intro v1 w1 ho hb _ _; have HR1 := Aside0.mk ho; have HB1 := Aside0.mk hb; clear ho hb)
            have hgt := HGT.out
            exact ⟨⟨i + ds.length, l ++ [⟨2, bs [], V, n⟩], n, ⟨HR1.out, HB1.out, HG2.out⟩, rfl, by rw [lastEnd_snoc]; rfl, by first | rfl | go_num, by omega, by simp only [List.length_append, List.length_singleton]; omega, by omega, by omega⟩, by simp only [intOf]; omega⟩
      · rw [hlb] at hLB
        have hw := go_word (S.drop i) hLB l n
        obtain ⟨ws, hws⟩ : ∃ ws, (S.drop i).takeWhile isLB = ws := ⟨_, rfl⟩
        obtain ⟨N, hN⟩ : ∃ N, ws.length = N := ⟨_, rfl⟩
        have hN1 : 1 ≤ N := by
          rw [← hN, ← hws, HD.out, List.takeWhile_cons_of_pos hlb, List.length_cons]
          omega
        have hN2 := tw_len isLB S i (by omega)
        rw [hws, hN] at hN2
        rw [hws, hN, List.drop_drop] at hw
        have hsl : ∀ W, (Instr.slice 9 (.string (bs S)) (some (.int .i64 i)) (some (.int .i64 ((i : Int) + (N : Int)))) none).run Try.prog W = .ok (.string (bs ws)) W := fun W => by
          have h := sl3 S i (i + N) (by omega) (by omega) W
          rw [Int.natCast_add] at h
          rw [show i + N - i = N by omega, ← hN, ← hws, take_len] at h
          rw [← hN, ← hws]
          exact h
        have HW := Aside0.mk hw
        have HSL := Aside0.mk hsl
        have HN := Aside0.mk (show ((S.drop i).takeWhile isLB).length = N by rw [hws, hN])
        clear hw hsl hN hws hDB hlb
        go_wp2_with (fail)
        refine (letter_calls S i _).mono ?_
        rintro e w' ⟨rfl, rfl⟩
        rw [hLB]
        clear hLB
        go_wp2_with (fail)
        go_loopw [8] (fun u w' => ∃ k : Nat, u = .int .i64 ((i + k : Nat) : Int) ∧ k ≤ N ∧ w' = wr) (fun u _ => S.length - (intOf u).toNat)
        case atStart => exact ⟨0, by simp, by omega, rfl⟩
        case round =>
          obtain ⟨k, rfl, hk, rfl⟩ := hrel
          go_wp2_with (fail)
          refine (letter_calls S (i + k) _).mono ?_
          rintro e w' ⟨rfl, rfl⟩
          by_cases hlt : k < N
          · obtain ⟨h2, h3, h4, h5⟩ := tw_in isLB S i k (by rw [HN.out]; exact hlt)
            rw [h5]
            clear h3 h4 h5
            go_wp2
            exact ⟨⟨k + 1, by go_num, by omega, trivial⟩, by simp only [intOf]; omega⟩
          · obtain rfl : k = N := by omega
            have ht := tw_out isLB S i
            rw [HN.out] at ht
            rw [ht]
            clear ht
            go_wp2_with (fail)
            refine (digit_calls S (i + k) _).mono ?_
            rintro e w' ⟨rfl, rfl⟩
            rcases hd2 : headIs isDB (S.drop (i + k))
            · have HG2 := Aside0.mk (show goT (S.drop (i + k)) (cleanT (l ++ [⟨1, bs ws, 0, n⟩]) n) = goT S x0 by rw [← HG.out]; exact (HW.out.2 hd2).symm)
              have hsl := HSL.out
              clear hd2
              go_wp2_with (at_builtin; refine Kd.R_append k31 (w0 := w) w.heap.size rfl (.tmp 86) (.tmp 93) 26 31 (.agg #[(.int .i64 0), (.string ⟨#[]⟩), (.int .i64 0), (.int .i64 0)]) 40 rfl Try.underlying26 info31 rfl (by decide) (by omega) _ l ⟨1, (bs ws), 0, n⟩ [.int .i64 1, .string (bs ws), .int .i64 0, .int .i64 n] (fun _ => True) (fun _ => False) rfl rfl (k31_mkM _ _ _ ⟨1, (bs ws), 0, n⟩) (fun _ hk => hk.elim) (fun _ _ => trivial) HR.out HB.out (below_size HB.out) (by omega) ?_; intro v1 w1 ho hb _ _; have HR1 := Aside0.mk ho; have HB1 := Aside0.mk hb; clear ho hb)
              exact ⟨⟨i + k, l ++ [⟨1, bs ws, 0, n⟩], n, ⟨HR1.out, HB1.out, HG2.out⟩, rfl, by rw [lastEnd_snoc]; rfl, by first | rfl | go_num, by omega, by simp only [List.length_append, List.length_singleton]; omega, by omega, by omega⟩, by simp only [intOf]; omega⟩
            · have HE := Aside0.mk (show goT S x0 = .inl n by rw [← HG.out]; exact HW.out.1 hd2)
              clear hd2
              go_wp2
              go_ret3
              exact ref_bad (by omega) HE.out HB.out
    · obtain rfl : i = S.length := by omega
      have hG2 : goT S x0 = .inr (cleanT (shutL n l) n) := by rw [← hG, List.drop_eq_nil_of_le (Nat.le_refl _), go_fin]
      have HG2 := Aside0.mk hG2
      clear hG hG2
      rcases hle : lastEnd l
      · have hsh : shutL n l = l ++ [⟨4, bs [], 0, n⟩] := if_neg (by rw [hle]; exact Bool.false_ne_true)
        rw [hsh] at HG2
        clear hsh
        go_wp2_with (at_builtin; refine Kd.R_append k31 (w0 := w) w.heap.size rfl (.tmp 146) (.tmp 149) 26 31 (.agg #[(.int .i64 0), (.string ⟨#[]⟩), (.int .i64 0), (.int .i64 0)]) 40 rfl Try.underlying26 info31 rfl (by decide) (by omega) _ l ⟨4, (bs []), 0, n⟩ [.int .i64 4, .string (bs []), .int .i64 0, .int .i64 n] (fun _ => True) (fun _ => False) rfl rfl (k31_mkM _ _ _ ⟨4, (bs []), 0, n⟩) (fun _ hk => hk.elim) (fun _ _ => trivial) HR.out HB.out (below_size HB.out) (by omega) ?_; intro v1 w1 ho hb _ _; have HR1 := Aside0.mk ho; have HB1 := Aside0.mk hb; clear ho hb)
        go_ret3
        exact ref_good (l := l ++ [⟨4, bs [], 0, n⟩]) (v := v1) (by omega) HG2.out rfl HB1.out HR1.out (by simp only [List.length_append, List.length_singleton]; omega)
      · have hsh : shutL n l = l := if_pos hle
        rw [hsh] at HG2
        clear hsh
        go_wp2
        go_ret3
        exact ref_good (l := l) (by omega) HG2.out rfl HB.out HR.out (by omega)
end Go.Proofs.Ythnmaaoafogbiaa.Lex
