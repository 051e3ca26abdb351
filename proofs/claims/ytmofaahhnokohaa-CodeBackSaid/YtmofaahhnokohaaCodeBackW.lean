/- The walk of CodeBack. -/
import Derived.Test.YtmofaahhnokohaaCodeNumbersW
import Derived.Test.YtmofaahhnokohaaCode14
import Derived.Test.YtmofaahhnokohaaPCodeAllx1
namespace Go.Proofs.Ytmofaahhnokohaa.Code
set_option linter.unusedSimpArgs false
set_option linter.unusedVariables false
open Go.RowKit Go.Proofs.YtmofaahhnokohaaW.PrintWords Go.Proofs.YtmofaahhnokohaaW.PrintLast Go.Proofs.YtmofaahhnokohaaW.PrintMore PCodeAll Go.Proofs.YtmofaahhnokohaaW.CanonE
attribute [local go_sem] max2_mx min2_mn max_two min_two max_three min_three max_four min_four

theorem few_some (fs : List (List S26)) (a b c : Int) : ∀ (d i k : Nat), i + d = 15 → 2 * d + 2 ≤ k → ∃ r, magpielaw00_Few.l0 k i fs a b c = some r := by
  intro d
  induction d with
  | zero =>
    intro i k hi hk
    obtain ⟨k, rfl⟩ : ∃ m, k = m + 2 := ⟨k - 2, by omega⟩
    have hd : decide ((i : Int) < 15) = false := decide_eq_false (by omega)
    simp only [magpielaw00_Few.l0, magpielaw00_Few.j1, hd]
    split
    · exact ⟨_, if_neg (by simp)⟩
    · exact ⟨_, if_neg (by simp)⟩
  | succ d ih =>
    intro i k hi hk
    obtain ⟨k, rfl⟩ : ∃ m, k = m + 2 := ⟨k - 2, by omega⟩
    have hd : decide ((i : Int) < 15) = true := decide_eq_true (by omega)
    have hw : wrap64 ((i : Int) + 1) = ((i + 1 : Nat) : Int) := by rw [wrap64_id _ (by omega)]; rfl
    obtain ⟨r, hr⟩ := ih (i + 1) k (by omega) (by omega)
    simp only [magpielaw00_Few.l0, magpielaw00_Few.j1, hd, hw]
    by_cases hl : (i : Int) < (fs.length : Int)
    · rw [if_pos hl, if_pos trivial, if_pos (by omega), if_pos hl]
      split
      · exact ⟨_, rfl⟩
      · exact ⟨r, hr⟩
    · rw [if_neg hl]
      exact ⟨_, if_neg (by simp)⟩
theorem few_calls (p : PG) (A : Option Addr) (c : Nat) (hc : p.fs.length ≤ c) (w : World) (hC : p.C w A) :
    ∃ r, Calls Try.prog 16 #[p.val A c] w fun e w' => e = .returned (.bool r) ∧ Below w.heap.size w w' := by
  obtain ⟨r, hr⟩ := few_some p.fs p.fu p.de p.fl 15 0 32 (by omega) (by omega)
  exact ⟨r, magpielaw00_Few.calls 32 A c p.fs p.fu p.de p.fl r w hC hc hr⟩
theorem put_size' {p : PG} : 8 ≤ (encB p).length := by
  rw [encB, List.length_map, putB_size]
  omega
theorem get_of {l : List UInt8} (h : GetOk l) : errOf (getP l) = 0 ∧ encB (getP l) = l := by
  rw [(getP_ok h).1]
  exact h
theorem put_top {p : PG} (h : errOf p = 0) : (encB p).length ≤ 4611686018427387904 := by
  have g := good_of h
  rw [encB, List.length_map, putB_size]
  have h1 := fs_len p.fs g.long p.fs.length
  rw [List.take_length] at h1
  have := g.len
  omega
theorem bs_take (l : List UInt8) (i : Nat) : (bs l).extract 0 i = bs (l.take i) := by
  apply ByteArray.ext
  rw [ByteArray.data_extract]
  simp [bs]
theorem bs_snoc (l : List UInt8) : bs l ++ ({ data := #[0] } : ByteArray) = bs (l ++ [0]) := by
  apply ByteArray.ext
  rw [ByteArray.data_append]
  simp [bs]
theorem getP_err {l : List UInt8} (h : ¬ GetOk l) : getE l = 4 := (getP_no h).2
theorem cut_no {p : PG} {l1 r : List UInt8} (hp : errOf p = 0) (h : encB p = l1 ++ r) (hr : r ≠ []) : ¬ GetOk l1 := by
  intro hg
  obtain ⟨h1, h2⟩ := get_of hg
  exact hr (enc_inj hp h1 (by rw [h2]; exact h)).2
theorem more_no {p : PG} {r : List UInt8} (hp : errOf p = 0) (hr : r ≠ []) : ¬ GetOk (encB p ++ r) := by
  intro hg
  obtain ⟨h1, h2⟩ := get_of hg
  exact hr (enc_inj h1 hp h2).2
end Go.Proofs.Ytmofaahhnokohaa.Code
namespace Go.Proofs.Ytmofaahhnokohaa.CodeBack
open Go.RowKit Go.Proofs.YtmofaahhnokohaaW.PrintWords Go.Proofs.YtmofaahhnokohaaW.PrintLast Go.Proofs.YtmofaahhnokohaaW.PrintMore PCodeAll Go.Proofs.YtmofaahhnokohaaW.CanonE Go.Proofs.Ytmofaahhnokohaa.Code
attribute [local go_sem] max2_mx min2_mn max_two min_two max_three min_three max_four min_four


set_option maxHeartbeats 1000000 in
theorem CodeBack_calls (p : PG) (A : Option Addr) (c : Nat) (s : ByteArray) (cut : Int) (w : World) (hC : p.C w A) (hc : p.fs.length ≤ c) (hs : s.size ≤ 140737488351232) :
    Calls Try.prog 6 #[p.val A c, .string s, .int .i64 cut] w fun e w' => e = .returned (.bool true) ∧ Below w.heap.size w w' := by
  obtain ⟨ls, rfl⟩ : ∃ ls, s = bs ls := ⟨s.data.toList, rfl⟩
  have S0 := Aside0.mk (heap_alloc_new w (.cells #[.slice A p.fs.length c, .int .i64 p.fu, .int .i64 p.de, .int .i64 p.fl] 33))
  have HB := Aside0.mk (below_alloc (Below.refl w.heap.size w) (.cells #[.slice A p.fs.length c, .int .i64 p.fu, .int .i64 p.de, .int .i64 p.fl] 33))
  have HC := Aside0.mk (Kd.C_below hC HB.out)
  have hC' : p.C (w.alloc (.cells #[.slice A p.fs.length c, .int .i64 p.fu, .int .i64 p.de, .int .i64 p.fl] 33)) A := HC.out
  obtain ⟨r, hr⟩ := few_calls p A c hc _ hC'
  have HR := Aside0.mk hr
  clear hC hr hC'
  obtain ⟨r0, r1, r2, r3⟩ := ps_reads S0.out
  show Calls Try.prog 6 #[.agg #[.slice A p.fs.length c, .int .i64 p.fu, .int .i64 p.de, .int .i64 p.fl], .string (bs ls), .int .i64 cut] w _
  go_enter Try.func6, Try.ntmps6
  go_wp2_with (fail)
  refine HR.out.mono ?_
  rintro e w1 ⟨rfl, hb1⟩
  have S1 := Aside0.mk (blk_below S0.out hb1)
  have HB1 := Aside0.mk (below_step HB.out hb1)
  have HC1 := Aside0.mk (Kd.C_below HC.out hb1)
  clear r0 r1 r2 r3 S0 HB HC hb1 HR
  have hg : w.heap.size ≤ w.heap.size := Nat.le_refl _
  cases r with
  | false =>
    have HB7 := HB1
    go_wp2_with (fail)
    refine (awake_calls _).mono ?_
    rintro e w8 ⟨rfl, hb8⟩
    have HB8 := Aside0.mk (below_step HB7.out hb8)
    clear hb8
    go_wp2_with (fail)
    go_ret
    exact ⟨rfl, HB8.out⟩
  | true =>
    by_cases h3 : 3000 < (bs ls).size
    · have h3' : decide ((3000 : Int) < ((bs ls).size : Int)) = true := decide_eq_true (by omega)
      have HB7 := HB1
      go_wp2_with (fail)
      refine (awake_calls _).mono ?_
      rintro e w8 ⟨rfl, hb8⟩
      have HB8 := Aside0.mk (below_step HB7.out hb8)
      clear hb8
      go_wp2_with (fail)
      go_ret
      exact ⟨rfl, HB8.out⟩
    · have h3' : decide ((3000 : Int) < ((bs ls).size : Int)) = false := decide_eq_false (by omega)
      obtain ⟨r0, r1, r2, r3⟩ := ps_reads S1.out
      go_wp2_with (fail)
      refine (Put_calls p A c _ HC1.out).mono ?_
      rintro e w2 ⟨rfl, hb2⟩
      have S2 := Aside0.mk (blk_below S1.out hb2)
      have HB2 := Aside0.mk (below_step HB1.out hb2)
      have HC2 := Aside0.mk (Kd.C_below HC1.out hb2)
      clear r0 r1 r2 r3 S1 HB1 HC1 hb2
      by_cases he : errOf p = 0
      · rw [he, if_pos rfl, str_enc]
        have HE := Aside0.mk he
        have h8 : 8 ≤ (bs (encB p)).size := by rw [bs_size]; exact put_size'
        clear he
        obtain ⟨l, hl⟩ : ∃ l, encB p = l := ⟨_, rfl⟩
        have HL := Aside0.mk hl
        rw [hl] at h8
        rw [hl]
        clear hl
        go_wp2_with (fail)
        refine (Get_calls l _).mono ?_
        rintro e w3 ⟨U, rfl, hR3, hb3⟩
        rw [← HL.out, (get_enc HE.out).1, (get_enc HE.out).2, HL.out]
        rw [← HL.out, (get_enc HE.out).1] at hR3
        obtain ⟨A3, c3, rfl, hc3, hC3⟩ := RP.reads hR3
        have S3 := Aside0.mk (blk_alloc (blk_below S2.out hb3) (.cells #[.slice A3 p.fs.length c3, .int .i64 p.fu, .int .i64 p.de, .int .i64 p.fl] 33))
        have T3 := Aside0.mk (heap_alloc_new w3 (.cells #[.slice A3 p.fs.length c3, .int .i64 p.fu, .int .i64 p.de, .int .i64 p.fl] 33))
        have HB3 := Aside0.mk (below_alloc (below_step HB2.out hb3) (.cells #[.slice A3 p.fs.length c3, .int .i64 p.fu, .int .i64 p.de, .int .i64 p.fl] 33))
        have HC3 := Aside0.mk (Kd.C_below (Kd.C_below HC2.out hb3) (below_alloc (Below.refl _ _) (.cells #[.slice A3 p.fs.length c3, .int .i64 p.fu, .int .i64 p.de, .int .i64 p.fl] 33)))
        have HD3 := Aside0.mk (Kd.C_below hC3 (below_alloc (Below.refl _ _) (.cells #[.slice A3 p.fs.length c3, .int .i64 p.fu, .int .i64 p.de, .int .i64 p.fl] 33)))
        clear hb3 hR3 hc3 hC3 S2 HB2 HC2
        obtain ⟨r0, r1, r2, r3⟩ := ps_reads S3.out
        obtain ⟨s0, s1, s2, s3⟩ := ps_reads T3.out
        go_wp2_with (fail)
        refine (SameProg_calls p p A3 A c3 c true (by simp) _ HD3.out HC3.out).mono ?_
        rintro e w4 ⟨rfl, hb4⟩
        have HB4 := Aside0.mk (below_step HB3.out hb4)
        clear r0 r1 r2 r3 s0 s1 s2 s3 S3 T3 HB3 HC3 HD3 hb4
        go_wp2_with (fail)
        have hs9 : (bs l).size ≤ 4611686018427387904 := by rw [bs_size, ← HL.out]; exact put_top HE.out
        refine (Place_calls cut (bs l).size _ (by omega) (by omega)).mono ?_
        rintro e w' ⟨rfl, rfl⟩
        obtain ⟨i, hi⟩ : ∃ i : Nat, cut % ((bs l).size : Int) = (i : Int) := ⟨(cut % ((bs l).size : Int)).toNat, by have := Int.emod_nonneg cut (show ((bs l).size : Int) ≠ 0 by omega); omega⟩
        have hil : i < (bs l).size := by have := Int.emod_lt_of_pos cut (show (0 : Int) < ((bs l).size : Int) by omega); omega
        rw [hi]
        clear hi
        go_wp2_with (fail)
        have hcut := cut_no HE.out (l1 := l.take i) (r := l.drop i) (by rw [HL.out, List.take_append_drop]) (by
          intro he
          have := congrArg List.length he
          rw [List.length_drop] at this
          have h2 := bs_size l
          simp at this
          omega)
        rw [bs_take]
        refine (Get_calls (l.take i) _).mono ?_
        rintro e w5 ⟨U, rfl, hR5, hb5⟩
        rw [(getP_no hcut).1, (getP_no hcut).2]
        rw [(getP_no hcut).1] at hR5
        obtain ⟨A5, c5, h5⟩ := Kd.R_slice hR5
        replace h5 : U = .slice A5 0 c5 := h5
        subst h5
        have HB5 := Aside0.mk (below_alloc (below_step HB4.out hb5) (.cells #[.slice A5 0 c5, .int .i64 0, .int .i64 0, .int .i64 0] 33))
        clear hR5 hb5 hcut HB4
        go_wp2_with (fail)
        have hmore := more_no HE.out (r := [0]) (by simp)
        rw [HL.out] at hmore
        rw [bs_snoc]
        refine (Get_calls (l ++ [0]) _).mono ?_
        rintro e w6 ⟨U, rfl, hR6, hb6⟩
        rw [(getP_no hmore).1, (getP_no hmore).2]
        rw [(getP_no hmore).1] at hR6
        obtain ⟨A6, c6, h6⟩ := Kd.R_slice hR6
        replace h6 : U = .slice A6 0 c6 := h6
        subst h6
        have HBB := Aside0.mk (below_alloc (below_step HB5.out hb6) (.cells #[.slice A6 0 c6, .int .i64 0, .int .i64 0, .int .i64 0] 33))
        clear hR6 hb6 hmore HB5
        go_wp2_with (fail)
        refine (Get_calls ls _).mono ?_
        rintro e w5 ⟨U, rfl, hR5, hb5⟩
        by_cases hG : GetOk ls
        · rw [(getP_ok hG).2]
          obtain ⟨hq0, hq1⟩ := get_of hG
          obtain ⟨q, hq⟩ : ∃ q, getP ls = q := ⟨_, rfl⟩
          rw [hq] at hR5 hq0 hq1
          rw [hq]
          obtain ⟨A5, c5, rfl, hc5, hC5⟩ := RP.reads hR5
          have HQ0 := Aside0.mk hq0
          have HQ1 := Aside0.mk hq1
          have T5 := Aside0.mk (heap_alloc_new w5 (.cells #[.slice A5 q.fs.length c5, .int .i64 q.fu, .int .i64 q.de, .int .i64 q.fl] 33))
          have HB5 := Aside0.mk (below_alloc (below_step HBB.out hb5) (.cells #[.slice A5 q.fs.length c5, .int .i64 q.fu, .int .i64 q.de, .int .i64 q.fl] 33))
          have HD5 := Aside0.mk (Kd.C_below hC5 (below_alloc (Below.refl _ _) (.cells #[.slice A5 q.fs.length c5, .int .i64 q.fu, .int .i64 q.de, .int .i64 q.fl] 33)))
          clear hq hq0 hq1 hR5 hb5 hc5 hC5 hG HBB
          obtain ⟨s0, s1, s2, s3⟩ := ps_reads T5.out
          go_wp2_with (fail)
          refine (Put_calls q A5 c5 _ HD5.out).mono ?_
          rintro e w6 ⟨rfl, hb6⟩
          rw [if_pos HQ0.out, HQ0.out, str_enc, HQ1.out]
          have HB7 := Aside0.mk (below_step HB5.out hb6)
          have hse : ((bs ls).toList == (bs ls).toList) = true := beq_self_eq_true _
          clear hb6 s0 s1 s2 s3 HD5 T5
          go_wp2_with (fail)
          refine (awake_calls _).mono ?_
          rintro e w8 ⟨rfl, hb8⟩
          have HB8 := Aside0.mk (below_step HB7.out hb8)
          clear hb8
          go_wp2_with (fail)
          go_ret
          exact ⟨rfl, HB8.out⟩
        · rw [(getP_no hG).1, (getP_no hG).2]
          rw [(getP_no hG).1] at hR5
          obtain ⟨A5, c5, h5⟩ := Kd.R_slice hR5
          replace h5 : U = .slice A5 0 c5 := h5
          subst h5
          have HB7 := Aside0.mk (below_alloc (below_step HBB.out hb5) (.cells #[.slice A5 0 c5, .int .i64 0, .int .i64 0, .int .i64 0] 33))
          have T5 := Aside0.mk (heap_alloc_new w5 (.cells #[.slice A5 0 c5, .int .i64 0, .int .i64 0, .int .i64 0] 33))
          obtain ⟨s0, s1, s2, s3⟩ := ps_reads T5.out
          clear hR5 hb5 hG HBB
          go_wp2_with (fail)
          refine (awake_calls _).mono ?_
          rintro e w8 ⟨rfl, hb8⟩
          have HB8 := Aside0.mk (below_step HB7.out hb8)
          clear hb8
          go_wp2_with (fail)
          go_ret
          exact ⟨rfl, HB8.out⟩
      · have HNO := Aside0.mk he
        rw [if_neg he]
        obtain ⟨er, her⟩ : ∃ er, errOf p = er := ⟨_, rfl⟩
        rw [her] at he
        rw [her]
        have t0 : (er == 0) = false := beq_eq_false_iff_ne.mpr he
        have HBB := HB2
        clear he her HC2 S2
        go_wp2_with (fail)
        refine (Get_calls ls _).mono ?_
        rintro e w5 ⟨U, rfl, hR5, hb5⟩
        by_cases hG : GetOk ls
        · rw [(getP_ok hG).2]
          obtain ⟨hq0, hq1⟩ := get_of hG
          obtain ⟨q, hq⟩ : ∃ q, getP ls = q := ⟨_, rfl⟩
          rw [hq] at hR5 hq0 hq1
          rw [hq]
          obtain ⟨A5, c5, rfl, hc5, hC5⟩ := RP.reads hR5
          have HQ0 := Aside0.mk hq0
          have HQ1 := Aside0.mk hq1
          have T5 := Aside0.mk (heap_alloc_new w5 (.cells #[.slice A5 q.fs.length c5, .int .i64 q.fu, .int .i64 q.de, .int .i64 q.fl] 33))
          have HB5 := Aside0.mk (below_alloc (below_step HBB.out hb5) (.cells #[.slice A5 q.fs.length c5, .int .i64 q.fu, .int .i64 q.de, .int .i64 q.fl] 33))
          have HD5 := Aside0.mk (Kd.C_below hC5 (below_alloc (Below.refl _ _) (.cells #[.slice A5 q.fs.length c5, .int .i64 q.fu, .int .i64 q.de, .int .i64 q.fl] 33)))
          clear hq hq0 hq1 hR5 hb5 hc5 hC5 hG HBB
          obtain ⟨s0, s1, s2, s3⟩ := ps_reads T5.out
          go_wp2_with (fail)
          refine (Put_calls q A5 c5 _ HD5.out).mono ?_
          rintro e w6 ⟨rfl, hb6⟩
          rw [if_pos HQ0.out, HQ0.out, str_enc, HQ1.out]
          have HB7 := Aside0.mk (below_step HB5.out hb6)
          have hse : ((bs ls).toList == (bs ls).toList) = true := beq_self_eq_true _
          clear hb6 s0 s1 s2 s3 HD5 T5
          go_wp2_with (fail)
          refine (awake_calls _).mono ?_
          rintro e w8 ⟨rfl, hb8⟩
          have HB8 := Aside0.mk (below_step HB7.out hb8)
          clear hb8
          go_wp2_with (fail)
          go_ret
          exact ⟨rfl, HB8.out⟩
        · rw [(getP_no hG).1, (getP_no hG).2]
          rw [(getP_no hG).1] at hR5
          obtain ⟨A5, c5, h5⟩ := Kd.R_slice hR5
          replace h5 : U = .slice A5 0 c5 := h5
          subst h5
          have HB7 := Aside0.mk (below_alloc (below_step HBB.out hb5) (.cells #[.slice A5 0 c5, .int .i64 0, .int .i64 0, .int .i64 0] 33))
          have T5 := Aside0.mk (heap_alloc_new w5 (.cells #[.slice A5 0 c5, .int .i64 0, .int .i64 0, .int .i64 0] 33))
          obtain ⟨s0, s1, s2, s3⟩ := ps_reads T5.out
          clear hR5 hb5 hG HBB
          go_wp2_with (fail)
          refine (awake_calls _).mono ?_
          rintro e w8 ⟨rfl, hb8⟩
          have HB8 := Aside0.mk (below_step HB7.out hb8)
          clear hb8
          go_wp2_with (fail)
          go_ret
          exact ⟨rfl, HB8.out⟩
end Go.Proofs.Ytmofaahhnokohaa.CodeBack
