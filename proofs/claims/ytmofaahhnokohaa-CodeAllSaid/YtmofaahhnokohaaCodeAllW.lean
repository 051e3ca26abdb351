/- The walk of CodeAll. -/
import Derived.Test.YtmofaahhnokohaaCodeNumbersW
import Derived.Test.YtmofaahhnokohaaCode14
import Derived.Test.YtmofaahhnokohaaCode16
import Derived.Test.YtmofaahhnokohaaCode19
namespace Go.Proofs.Ytmofaahhnokohaa.CodeAll
set_option linter.unusedSimpArgs false
set_option linter.unusedVariables false
open Go.RowKit Go.Proofs.YtmofaahhnokohaaW.PrintWords Go.Proofs.YtmofaahhnokohaaW.PrintLast Go.Proofs.YtmofaahhnokohaaW.PrintMore PCodeAll Go.Proofs.YtmofaahhnokohaaW.CanonE Go.Proofs.Ytmofaahhnokohaa.Code
attribute [local go_sem] max2_mx min2_mn max_two min_two max_three min_three max_four min_four

theorem fresh_val (q : PG) (A : Option Addr) (c : Nat) : Value.agg #[.slice A q.fs.length c, .int .i64 q.fu, .int .i64 q.de, .int .i64 q.fl] = q.val A c := rfl
set_option maxHeartbeats 2000000 in
theorem CodeAll_calls (p : PG) (A : Option Addr) (c : Nat) (s : ByteArray) (x : S26) (w : World) (hC : p.C w A) (hc : p.fs.length ≤ c) (hs : s.size ≤ 140737488351232) :
    Calls Try.prog 5 #[p.val A c, .string s, .agg #[.int .i64 x.f0, .int .i64 x.f1, .int .i64 x.f2, .int .i64 x.f3]] w fun e w' => e = .returned (.bool true) ∧ Below w.heap.size w w' := by
  obtain ⟨ls, rfl⟩ : ∃ ls, s = bs ls := ⟨s.data.toList, rfl⟩
  clear hs
  have S0 := Aside0.mk (blk_alloc (heap_alloc_new w (.cells #[.slice A p.fs.length c, .int .i64 p.fu, .int .i64 p.de, .int .i64 p.fl] 33)) (.cells #[.int .i64 x.f0, .int .i64 x.f1, .int .i64 x.f2, .int .i64 x.f3] 26))
  have X0 := Aside0.mk (heap_alloc_new (w.alloc (.cells #[.slice A p.fs.length c, .int .i64 p.fu, .int .i64 p.de, .int .i64 p.fl] 33)) (.cells #[.int .i64 x.f0, .int .i64 x.f1, .int .i64 x.f2, .int .i64 x.f3] 26))
  rw [World.size_alloc] at X0
  have HB := Aside0.mk (below_two (Below.refl w.heap.size w) (Nat.le_refl _) (.cells #[.slice A p.fs.length c, .int .i64 p.fu, .int .i64 p.de, .int .i64 p.fl] 33) (.cells #[.int .i64 x.f0, .int .i64 x.f1, .int .i64 x.f2, .int .i64 x.f3] 26))
  have HC := Aside0.mk (Kd.C_below hC HB.out)
  obtain ⟨r, hr1, hr⟩ := fewB_calls p A c hc _ (show p.C _ A from HC.out)
  have HR := Aside0.mk hr
  have HR1 := Aside0.mk hr1
  clear hC hr hr1 hc
  obtain ⟨r0, r1, r2, r3⟩ := ps_reads S0.out
  show Calls Try.prog 5 #[.agg #[.slice A p.fs.length c, .int .i64 p.fu, .int .i64 p.de, .int .i64 p.fl], .string (bs ls), .agg #[.int .i64 x.f0, .int .i64 x.f1, .int .i64 x.f2, .int .i64 x.f3]] w _
  go_enter Try.func5, Try.ntmps5
  go_wp2_with (fail)
  refine HR.out.mono ?_
  rintro e w1 ⟨rfl, hb1⟩
  have S1 := Aside0.mk (blk_below S0.out hb1)
  have X1 := Aside0.mk (blk_below X0.out hb1)
  have HB1 := Aside0.mk (below_step HB.out hb1)
  have HC1 := Aside0.mk (Kd.C_below HC.out hb1)
  clear r0 r1 r2 r3 S0 HB HC hb1 HR X0
  cases r with
  | false =>
    have HB7 := HB1
    go_wp2_with (fail)
    refine (awake_calls _).mono ?_
    rintro e w8 ⟨rfl, hb8⟩
    have HB8 := Aside0.mk (below_step HB7.out hb8)
    clear hb8
    go_wp2_with (fail)
    go_ret
    exact ⟨rfl, HB8.out⟩
  | true =>
    by_cases h3 : 3000 < (bs ls).size
    · have h3' : decide ((3000 : Int) < ((bs ls).size : Int)) = true := decide_eq_true (by omega)
      have HB7 := HB1
      go_wp2_with (fail)
      refine (awake_calls _).mono ?_
      rintro e w8 ⟨rfl, hb8⟩
      have HB8 := Aside0.mk (below_step HB7.out hb8)
      clear hb8
      go_wp2_with (fail)
      go_ret
      exact ⟨rfl, HB8.out⟩
    have h3' : decide ((3000 : Int) < ((bs ls).size : Int)) = false := decide_eq_false (by omega)
    have HFW := Aside0.mk (HR1.out rfl)
    have HL := Aside0.mk (show ls.length ≤ 3000 by rw [bs_size] at h3; omega)
    clear HR1 h3
    obtain ⟨r0, r1, r2, r3⟩ := ps_reads S1.out
    go_wp2_with (fail)
    refine (CopyProg_calls p A c _ HC1.out HFW.out).mono ?_
    rintro e w2 ⟨U, rfl, hR2, hb2⟩
    obtain ⟨A2, c2, rfl, hc2, hC2⟩ := RP.reads hR2
    have S2 := Aside0.mk (blk_below S1.out hb2)
    have X2 := Aside0.mk (blk_below X1.out hb2)
    have HB2 := Aside0.mk (below_step HB1.out hb2)
    have HC2 := Aside0.mk (Kd.C_below HC1.out hb2)
    have HD2 := Aside0.mk hC2
    clear r0 r1 r2 r3 S1 X1 HB1 HC1 hb2 hR2 hc2 hC2 h3'
    go_wp2_with (fail)
    refine (Put_calls p A2 c2 _ HD2.out).mono ?_
    rintro e w3 ⟨rfl, hb3⟩
    obtain ⟨st, hst⟩ : ∃ st, (if errOf p = 0 then strOfNums (putB p) else ⟨#[]⟩) = st := ⟨_, rfl⟩
    obtain ⟨er, her⟩ : ∃ er, errOf p = er := ⟨_, rfl⟩
    rw [hst, her]
    have S3 := Aside0.mk (blk_below S2.out hb3)
    have X3 := Aside0.mk (blk_below X2.out hb3)
    have HB3 := Aside0.mk (below_step HB2.out hb3)
    have HC3 := Aside0.mk (Kd.C_below HC2.out hb3)
    have HST := Aside0.mk hst
    have HER := Aside0.mk her
    clear S2 X2 HB2 HC2 HD2 hb3 hst her
    obtain ⟨r0, r1, r2, r3⟩ := ps_reads S3.out
    go_wp2_with (fail)
    refine (RPut_calls p A c _ HC3.out).mono ?_
    rintro e w4 ⟨rfl, hb4⟩
    rw [HST.out, HER.out]
    have X4 := Aside0.mk (blk_below X3.out hb4)
    have HB4 := Aside0.mk (below_step HB3.out hb4)
    clear S3 X3 HB3 HC3 hb4 r0 r1 r2 r3 HST HER
    go_wp2_with (fail)
    refine (Get_calls ls _).mono ?_
    rintro e w5 ⟨U, rfl, hR5, hb5⟩
    obtain ⟨q, hq⟩ : ∃ q, getP ls = q := ⟨_, rfl⟩
    obtain ⟨ge, hge⟩ : ∃ ge, getE ls = ge := ⟨_, rfl⟩
    rw [hq] at hR5
    rw [hq, hge]
    have HQ := Aside0.mk hq
    have HGE := Aside0.mk hge
    obtain ⟨A5, c5, rfl, hc5, hC5⟩ := RP.reads hR5
    have X5 := Aside0.mk (blk_alloc (blk_below X4.out hb5) (.cells #[.slice A5 q.fs.length c5, .int .i64 q.fu, .int .i64 q.de, .int .i64 q.fl] 33))
    have T5 := Aside0.mk (heap_alloc_new w5 (.cells #[.slice A5 q.fs.length c5, .int .i64 q.fu, .int .i64 q.de, .int .i64 q.fl] 33))
    have HB5 := Aside0.mk (below_alloc (below_step HB4.out hb5) (.cells #[.slice A5 q.fs.length c5, .int .i64 q.fu, .int .i64 q.de, .int .i64 q.fl] 33))
    have HC5 := Aside0.mk (Kd.C_below hC5 (below_alloc (Below.refl _ _) (.cells #[.slice A5 q.fs.length c5, .int .i64 q.fu, .int .i64 q.de, .int .i64 q.fl] 33)))
    clear hq hge hR5 hb5 hc5 hC5 X4 HB4
    go_wp2_with (fail)
    refine (RGet_calls ls _ HL.out).mono ?_
    rintro e w6 ⟨U, rfl, hR6, hb6⟩
    rw [HQ.out, HGE.out]
    rw [HQ.out] at hR6
    obtain ⟨A6, c6, rfl, hc6, hC6⟩ := RP.reads hR6
    have X6 := Aside0.mk (blk_alloc (blk_below X5.out hb6) (.cells #[.slice A6 q.fs.length c6, .int .i64 q.fu, .int .i64 q.de, .int .i64 q.fl] 33))
    have T6 := Aside0.mk (blk_alloc (blk_below T5.out hb6) (.cells #[.slice A6 q.fs.length c6, .int .i64 q.fu, .int .i64 q.de, .int .i64 q.fl] 33))
    have V6 := Aside0.mk (heap_alloc_new w6 (.cells #[.slice A6 q.fs.length c6, .int .i64 q.fu, .int .i64 q.de, .int .i64 q.fl] 33))
    have HB6 := Aside0.mk (below_alloc (below_step HB5.out hb6) (.cells #[.slice A6 q.fs.length c6, .int .i64 q.fu, .int .i64 q.de, .int .i64 q.fl] 33))
    have HC6 := Aside0.mk (Kd.C_below (Kd.C_below HC5.out hb6) (below_alloc (Below.refl _ _) (.cells #[.slice A6 q.fs.length c6, .int .i64 q.fu, .int .i64 q.de, .int .i64 q.fl] 33)))
    have HD6 := Aside0.mk (Kd.C_below hC6 (below_alloc (Below.refl _ _) (.cells #[.slice A6 q.fs.length c6, .int .i64 q.fu, .int .i64 q.de, .int .i64 q.fl] 33)))
    clear HQ HGE hR6 hb6 hc6 hC6 X5 T5 HB5 HC5
    have t1 : (st.toList == st.toList) = true := beq_self_eq_true _
    have t2 : (er == er) = true := beq_self_eq_true _
    have t3 : (ge == ge) = true := beq_self_eq_true _
    obtain ⟨sh, hsh⟩ : ∃ sh, Code.shape x = sh := ⟨_, rfl⟩
    have HSH := Aside0.mk hsh
    have t4 : (sh == sh) = true := beq_self_eq_true _
    clear hsh
    go_wp2_with (fail)
    revert X6 T6 V6 HB6 HC6 HD6
    generalize w6.alloc (.cells #[.slice A6 q.fs.length c6, .int .i64 q.fu, .int .i64 q.de, .int .i64 q.fl] 33) = wz
    intro X6 T6 V6 HB6 HC6 HD6
    refine canon [.pure 0, .pure 1, .pure 2, .pure 3, .pure 4, .pure 5, .pure 6, .pure 7, .pure 8, .held 9, .held 10, .eff 11, .pure 12, .pure 13, .pure 14, .pure 15, .pure 16, .pure 17, .pure 18, .held 19, .held 21, .eff 20, .eff 22, .pure 23, .pure 24, .pure 25, .eff 26, .pure 27, .pure 28] [] (fun W => Below wz.heap.size wz W) (by kernel_rfl) rfl rfl (by kernel_rfl) (by intro c d v a w h; cases d <;> exact h) ?_
    intro w7 hb7 _
    have HZ := Aside0.mk hb7
    clear hb7
    repeat (first | (refine c_pure rfl rfl (by rfl) (v := ?_) ?_ (a' := ?_) ?_ ?_; rotate_left; (focus (intro w'; go_simp; with_reducible rfl)); rotate_left; (focus ((try simp only [Act.put, List.setIfInBounds_toArray, List.set_cons_zero, List.set_cons_succ, i64_w, i32_w]); rfl))) | (refine c_off rfl rfl (by rfl) (a' := ?_) ?_ ?_; rotate_left; (focus ((try simp only [Act.put, List.setIfInBounds_toArray, List.set_cons_zero, List.set_cons_succ, i64_w, i32_w]); rfl))))
    (refine c_row rfl rfl (by rfl) HZ.out 33 (.tmp 11) rfl w5.heap.size rfl 33 _ (0, 0) _ (fun w' hS' => blk_below T6.out hS') Try.underlying33 rfl info33 (a' := ?_) ?_ ?_; rotate_left; (focus ((try simp only [Act.put, List.setIfInBounds_toArray, List.set_cons_zero, List.set_cons_succ, i64_w, i32_w]); rfl)))
    (refine c_row rfl rfl (by rfl) HZ.out 33 (.tmp 13) rfl w6.heap.size rfl 33 _ (0, 0) _ (fun w' hS' => blk_below V6.out hS') Try.underlying33 rfl info33 (a' := ?_) ?_ ?_; rotate_left; (focus ((try simp only [Act.put, List.setIfInBounds_toArray, List.set_cons_zero, List.set_cons_succ, i64_w, i32_w]); rfl)))
    refine c_eff rfl (fun K hK => ?_)
    go_simp
    refine (SameProg_calls q q A5 A6 c5 c6 true (by simp) _ (Kd.C_below HC6.out HZ.out) (Kd.C_below HD6.out HZ.out)).mono ?_
    rintro e w8 ⟨rfl, hb8⟩
    refine hK _ _ (fun h => below_step h hb8) ?_
    have HZ8 := Aside0.mk (below_step HZ.out hb8)
    clear hK K hb8 HZ
    repeat (first | (refine c_pure rfl rfl (by rfl) (v := ?_) ?_ (a' := ?_) ?_ ?_; rotate_left; (focus (intro w'; go_simp; with_reducible rfl)); rotate_left; (focus ((try simp only [Act.put, List.setIfInBounds_toArray, List.set_cons_zero, List.set_cons_succ, i64_w, i32_w]); rfl))) | (refine c_off rfl rfl (by rfl) (a' := ?_) ?_ ?_; rotate_left; (focus ((try simp only [Act.put, List.setIfInBounds_toArray, List.set_cons_zero, List.set_cons_succ, i64_w, i32_w]); rfl))))
    (refine c_row rfl rfl (by rfl) HZ8.out 26 (.tmp 5) rfl (w.heap.size + 1) rfl 26 _ (0, 0) _ (fun w' hS' => blk_below X6.out hS') Try.underlying26 rfl info26 (a' := ?_) ?_ ?_; rotate_left; (focus ((try simp only [Act.put, List.setIfInBounds_toArray, List.set_cons_zero, List.set_cons_succ, i64_w, i32_w]); rfl)))
    (refine c_row rfl rfl (by rfl) HZ8.out 26 (.tmp 5) rfl (w.heap.size + 1) rfl 26 _ (0, 0) _ (fun w' hS' => blk_below X6.out hS') Try.underlying26 rfl info26 (a' := ?_) ?_ ?_; rotate_left; (focus ((try simp only [Act.put, List.setIfInBounds_toArray, List.set_cons_zero, List.set_cons_succ, i64_w, i32_w]); rfl)))
    refine c_eff rfl (fun K hK => ?_)
    go_simp
    refine (Shape_calls x _).mono ?_
    rintro e w9 ⟨rfl, hb9⟩
    rw [HSH.out]
    refine hK _ _ (fun h => below_step h hb9) ?_
    have HZ9 := Aside0.mk (below_step HZ8.out hb9)
    clear hK K hb9 HZ8
    (refine c_norm (a' := ?_) ?_ ?_; rotate_left; (focus ((try simp only [Act.put, List.setIfInBounds_toArray, List.set_cons_zero, List.set_cons_succ, i64_w, i32_w]); rfl)))
    refine c_eff rfl (fun K hK => ?_)
    go_simp
    refine (RShape_calls x _).mono ?_
    rintro e w10 ⟨rfl, hb10⟩
    rw [HSH.out]
    refine hK _ _ (fun h => below_step h hb10) ?_
    have HZ10 := Aside0.mk (below_step HZ9.out hb10)
    clear hK K hb10 HZ9
    repeat (first | (refine c_pure rfl rfl (by rfl) (v := ?_) ?_ (a' := ?_) ?_ ?_; rotate_left; (focus (intro w'; go_simp; with_reducible rfl)); rotate_left; (focus ((try simp only [Act.put, List.setIfInBounds_toArray, List.set_cons_zero, List.set_cons_succ, i64_w, i32_w]); rfl))) | (refine c_off rfl rfl (by rfl) (a' := ?_) ?_ ?_; rotate_left; (focus ((try simp only [Act.put, List.setIfInBounds_toArray, List.set_cons_zero, List.set_cons_succ, i64_w, i32_w]); rfl))))
    refine c_eff rfl (fun K hK => ?_)
    go_simp
    refine (awake_calls _).mono ?_
    rintro e w11 ⟨rfl, hb11⟩
    refine hK _ _ (fun h => below_step h hb11) ?_
    have HB11 := Aside0.mk (below_step HB6.out (below_step HZ10.out hb11))
    clear hK K hb11 HZ10
    repeat (first | (refine c_pure rfl rfl (by rfl) (v := ?_) ?_ (a' := ?_) ?_ ?_; rotate_left; (focus (intro w'; go_simp; with_reducible rfl)); rotate_left; (focus ((try simp only [Act.put, List.setIfInBounds_toArray, List.set_cons_zero, List.set_cons_succ, i64_w, i32_w]); rfl))) | (refine c_off rfl rfl (by rfl) (a' := ?_) ?_ ?_; rotate_left; (focus ((try simp only [Act.put, List.setIfInBounds_toArray, List.set_cons_zero, List.set_cons_succ, i64_w, i32_w]); rfl))))
    refine c_done ?_
    go_wp2_with (fail)
    go_ret
    exact ⟨rfl, HB11.out⟩
end Go.Proofs.Ytmofaahhnokohaa.CodeAll
