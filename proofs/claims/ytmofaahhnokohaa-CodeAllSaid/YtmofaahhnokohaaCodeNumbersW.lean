/- The walk of CodeNumbers. -/
import Derived.Test.YtmofaahhnokohaaCode11
import Derived.Test.YtmofaahhnokohaaCode13
namespace Go.Proofs.Ytmofaahhnokohaa.Code
set_option linter.unusedSimpArgs false
set_option linter.unusedVariables false
open Go.RowKit Go.Proofs.YtmofaahhnokohaaW.PrintWords Go.Proofs.YtmofaahhnokohaaW.PrintLast Go.Proofs.YtmofaahhnokohaaW.PrintMore PCodeAll Go.Proofs.YtmofaahhnokohaaW.CanonE
attribute [local go_sem] max2_mx min2_mn max_two min_two max_three min_three max_four min_four

theorem SameProg_calls (p q : PG) (A B : Option Addr) (c d : Nat) (b : Bool) (hb : b = true ↔ p = q) (w : World) (hC : p.C w A) (hD : q.C w B) :
    Calls Try.prog 21 #[p.val A c, q.val B d] w fun e w' => e = .returned (.bool b) ∧ Below w.heap.size w w' := by
  have HB := Aside0.mk (below_two (Below.refl w.heap.size w) (Nat.le_refl _) (.cells #[.slice A p.fs.length c, .int .i64 p.fu, .int .i64 p.de, .int .i64 p.fl] 33) (.cells #[.slice B q.fs.length d, .int .i64 q.fu, .int .i64 q.de, .int .i64 q.fl] 33))
  have S0 := Aside0.mk (blk_alloc (heap_alloc_new w (.cells #[.slice A p.fs.length c, .int .i64 p.fu, .int .i64 p.de, .int .i64 p.fl] 33)) (.cells #[.slice B q.fs.length d, .int .i64 q.fu, .int .i64 q.de, .int .i64 q.fl] 33))
  have T0 := Aside0.mk (heap_alloc_new (w.alloc (.cells #[.slice A p.fs.length c, .int .i64 p.fu, .int .i64 p.de, .int .i64 p.fl] 33)) (.cells #[.slice B q.fs.length d, .int .i64 q.fu, .int .i64 q.de, .int .i64 q.fl] 33))
  rw [World.size_alloc] at T0
  have HC := Aside0.mk (Kd.C_below hC HB.out)
  have HD := Aside0.mk (Kd.C_below hD HB.out)
  clear hC hD
  obtain ⟨r0, r1, r2, r3⟩ := ps_reads S0.out
  obtain ⟨s0, s1, s2, s3⟩ := ps_reads T0.out
  show Calls Try.prog 21 #[.agg #[.slice A p.fs.length c, .int .i64 p.fu, .int .i64 p.de, .int .i64 p.fl], .agg #[.slice B q.fs.length d, .int .i64 q.fu, .int .i64 q.de, .int .i64 q.fl]] w _
  have HBB := Aside0.mk hb
  clear hb
  go_enter Try.func21, Try.ntmps21
  go_wp2_with (fail)
  refine (Same_calls p q A B c d b HBB.out _ HC.out HD.out).mono ?_
  rintro e w1 ⟨rfl, hb1⟩
  have HB1 := Aside0.mk (below_step HB.out hb1)
  clear hb1 r0 r1 r2 r3 s0 s1 s2 s3
  go_wp2_with (fail)
  go_ret
  exact ⟨rfl, HB1.out⟩
theorem get_enc {p : PG} (h : errOf p = 0) : getP (encB p) = p ∧ getE (encB p) = 0 := by
  have hd := dec_enc p [] h
  rw [List.append_nil] at hd
  have hk : GetOk (encB p) := ⟨by rw [hd]; exact h, by rw [hd]⟩
  rw [(getP_ok hk).1, (getP_ok hk).2, hd]
  exact ⟨rfl, rfl⟩
end Go.Proofs.Ytmofaahhnokohaa.Code
namespace Go.Proofs.Ytmofaahhnokohaa.CodeNumbers
open Go.RowKit Go.Proofs.YtmofaahhnokohaaW.PrintWords Go.Proofs.YtmofaahhnokohaaW.PrintLast Go.Proofs.YtmofaahhnokohaaW.PrintMore PCodeAll Go.Proofs.YtmofaahhnokohaaW.CanonE Go.Proofs.Ytmofaahhnokohaa.Code
attribute [local go_sem] max2_mx min2_mn max_two min_two max_three min_three max_four min_four

set_option maxHeartbeats 1000000 in
theorem CodeNumbers_calls (n : List Int) (A : Option Addr) (c : Nat) (cancels : Bool) (w : World) (hC : (Kd.int .i64).C w A n.length n) (hc : n.length ≤ c) :
    Calls Try.prog 7 #[.slice A n.length c, .bool cancels] w fun e w' => e = .returned (.bool true) ∧ Below w.heap.size w w' := by
  by_cases h100 : 100 < n.length
  · have h100' : decide ((100 : Int) < (n.length : Int)) = true := decide_eq_true (by omega)
    clear hC
    go_enter Try.func7, Try.ntmps7
    go_wp2_with (fail)
    refine (awake_calls _).mono ?_
    rintro e w1 ⟨rfl, hb⟩
    have HB := Aside0.mk hb
    clear hb
    go_wp2_with (fail)
    go_ret
    exact ⟨rfl, HB.out⟩
  have h100' : decide ((100 : Int) < (n.length : Int)) = false := decide_eq_false (by omega)
  clear h100
  have HC := Aside0.mk hC
  clear hC
  go_enter Try.func7, Try.ntmps7
  go_wp2_with (fail)
  refine (Prog_calls n A c cancels _ HC.out hc).mono ?_
  rintro e w1 ⟨p, U, rfl, hp, hR, hb⟩
  obtain ⟨A1, c1, rfl, hc1, hC1⟩ := RP.reads hR
  have hg : w.heap.size ≤ w1.heap.size := hb.size
  have HP := Aside0.mk hp
  have S1 := Aside0.mk (heap_alloc_new w1 (.cells #[.slice A1 p.fs.length c1, .int .i64 p.fu, .int .i64 p.de, .int .i64 p.fl] 33))
  have HB := Aside0.mk (hb.alloc hb.size (.cells #[.slice A1 p.fs.length c1, .int .i64 p.fu, .int .i64 p.de, .int .i64 p.fl] 33))
  have HC1 := Aside0.mk (Kd.C_below hC1 (below_alloc (Below.refl _ _) (.cells #[.slice A1 p.fs.length c1, .int .i64 p.fu, .int .i64 p.de, .int .i64 p.fl] 33)))
  clear HC hp hR hb hC1 hc1 h100' hc
  obtain ⟨⟨p0, p1, p2, p3⟩, ⟨q0, q1, q2, q3⟩⟩ := row4' S1.out
  go_wp2_with (fail)
  refine (Put_calls p A1 c1 _ HC1.out).mono ?_
  rintro e w2 ⟨rfl, hb2⟩
  rw [prog_err HP.out, if_pos rfl, str_enc]
  have HC2 := Aside0.mk (Kd.C_below HC1.out hb2)
  have S2 := Aside0.mk (blk_below S1.out hb2)
  have HB2 := Aside0.mk (below_step HB.out hb2)
  clear p0 p1 p2 p3 q0 q1 q2 q3 hb2 HC1 S1 HB
  go_wp2_with (fail)
  refine (Get_calls (encB p) _).mono ?_
  rintro e w3 ⟨U, rfl, hR3, hb3⟩
  rw [(get_enc (prog_err HP.out)).1, (get_enc (prog_err HP.out)).2]
  rw [(get_enc (prog_err HP.out)).1] at hR3
  obtain ⟨A3, c3, rfl, hc3, hC3⟩ := RP.reads hR3
  have S3 := Aside0.mk (blk_alloc (blk_below S2.out hb3) (.cells #[.slice A3 p.fs.length c3, .int .i64 p.fu, .int .i64 p.de, .int .i64 p.fl] 33))
  have T3 := Aside0.mk (heap_alloc_new w3 (.cells #[.slice A3 p.fs.length c3, .int .i64 p.fu, .int .i64 p.de, .int .i64 p.fl] 33))
  have HB3 := Aside0.mk ((below_step HB2.out hb3).alloc (below_step HB2.out hb3).size (.cells #[.slice A3 p.fs.length c3, .int .i64 p.fu, .int .i64 p.de, .int .i64 p.fl] 33))
  have HC3 := Aside0.mk (Kd.C_below (Kd.C_below HC2.out hb3) (below_alloc (Below.refl _ _) (.cells #[.slice A3 p.fs.length c3, .int .i64 p.fu, .int .i64 p.de, .int .i64 p.fl] 33)))
  have HD3 := Aside0.mk (Kd.C_below hC3 (below_alloc (Below.refl _ _) (.cells #[.slice A3 p.fs.length c3, .int .i64 p.fu, .int .i64 p.de, .int .i64 p.fl] 33)))
  clear hb3 hR3 hc3 hC3 HC2 S2 HB2
  obtain ⟨⟨p0, p1, p2, p3⟩, ⟨q0, q1, q2, q3⟩⟩ := row4' S3.out
  go_wp2_with (fail)
  clear p0 p1 p2 p3 q0 q1 q2 q3
  revert S3 T3 HB3 HC3 HD3 hg
  generalize w3.alloc (.cells #[.slice A3 p.fs.length c3, .int .i64 p.fu, .int .i64 p.de, .int .i64 p.fl] 33) = w4
  generalize w1.heap.size = g3
  generalize w3.heap.size = g8
  intro hg S3 T3 HB3 HC3 HD3
  go_loopw [10] (fun u w' => ∃ i : Nat, u = .int .i64 i ∧ i ≤ p.fs.length ∧ Aside0 (Below w4.heap.size w4 w')) (fun u _ => p.fs.length - (intOf u).toNat)
  case atStart => exact ⟨0, rfl, by omega, ⟨Below.refl _ _⟩⟩
  case round =>
    obtain ⟨i, rfl, hi, HJ⟩ := hrel
    have r0 := (ps_reads (blk_below S3.out HJ.out)).1
    by_cases hlt : i < p.fs.length
    · obtain ⟨ad, A0, c0, rfl, a0, _, hA0⟩ := at_L2 HC3.out i (by omega) (by omega)
      rw [Int.toNat_natCast, rd_L2_at p.fs i hlt] at a0
      rw [rd_L2_at p.fs i hlt] at hA0
      have HIX := Aside0.mk (fun (W : World) => ix31 ad p.fs.length c1 (i : Int) i W (by omega) (by omega) (Int.toNat_natCast i))
      have HFO := Aside0.mk (HP.out.funs _ (List.getElem_mem hlt))
      obtain ⟨f, hf⟩ : ∃ f, p.fs[i]'hlt = f := ⟨_, rfl⟩
      rw [hf] at a0 hA0 HFO
      have HF := Aside0.mk hA0
      have A0w := Aside0.mk a0
      have HW5 := Aside0.mk (wrap_next hlt HC3.out.2.1)
      clear hA0 hf a0
      go_wp2_with (fail)
      clear r0
      go_loopw [11] (fun u w' => ∃ j : Nat, u = .int .i64 j ∧ j ≤ f.length ∧ Aside0 (Below w4.heap.size w4 w')) (fun u _ => f.length - (intOf u).toNat)
      case atStart => exact ⟨0, rfl, by omega, HJ⟩
      case round =>
        obtain ⟨j, rfl, hj, HJ2⟩ := hrel
        clear HJ
        have r0 := (ps_reads (blk_below S3.out HJ2.out)).1
        have a0 := cell_below A0w.out HJ2.out
        have hix := HIX.out
        by_cases hjl : j < f.length
        · obtain ⟨af, hA, b0', b1', b2', b3'⟩ := at_T26 HF.out j (by omega) (by omega)
          subst hA
          obtain ⟨nn, hnn⟩ : ∃ nn : Nat, ((j : Int)).toNat * 4 = nn := ⟨_, rfl⟩
          rw [hnn, rd_T26_at f j hjl] at b0' b1' b2' b3'
          have hix2 := fun (W : World) => ix38 af f.length c0 (j : Int) nn W (by omega) (by omega) hnn
          have HX := Aside0.mk (HFO.out.ins _ (List.getElem_mem hjl)).ok
          obtain ⟨x, hx⟩ : ∃ x, f[j]'hjl = x := ⟨_, rfl⟩
          rw [hx] at b0' b1' b2' b3' HX
          have b0 := cell_below b0' HJ2.out
          have b1 := cell_below b1' HJ2.out
          have b2 := cell_below b2' HJ2.out
          have b3 := cell_below b3' HJ2.out
          have HW6 := Aside0.mk (wrap_next hjl HF.out.2.1)
          clear hx hnn b0' b1' b2' b3'
          go_wp2_with (fail)
          refine (Shape_calls x _).mono ?_
          rintro e w6 ⟨rfl, hb6⟩
          rw [HX.out]
          have HJ6 := Aside0.mk (below_step HJ2.out hb6)
          clear hb6 r0 a0 b0 b1 b2 b3 hix hix2
          go_wp2_with (fail)
          go_roundw
          case rel => exact ⟨j + 1, num_next HW6.out, Nat.succ_le_of_lt hjl, HJ6⟩
          case measure => exact meas_next hjl HW6.out
        · have hjd : decide (j < f.length) = false := decide_eq_false hjl
          go_wp2_with (fail)
          go_roundw
          case rel => exact ⟨i + 1, num_next HW5.out, Nat.succ_le_of_lt hlt, HJ2⟩
          case measure => exact meas_next hlt HW5.out
    · have HC4 := Aside0.mk (Kd.C_below HC3.out HJ.out)
      have HD4 := Aside0.mk (Kd.C_below HD3.out HJ.out)
      obtain ⟨r0, r1, r2, r3⟩ := ps_reads (blk_below S3.out HJ.out)
      obtain ⟨s0, s1, s2, s3⟩ := ps_reads (blk_below T3.out HJ.out)
      have HB4 := Aside0.mk (below_step HB3.out HJ.out)
      clear HJ
      go_wp2_with (fail)
      refine (SameProg_calls p p A1 A3 c1 c3 true (by simp) _ HC4.out HD4.out).mono ?_
      rintro e w6 ⟨rfl, hb6⟩
      have HB6 := Aside0.mk (below_step HB4.out hb6)
      clear r0 r1 r2 r3 s0 s1 s2 s3 hb6
      go_wp2_with (fail)
      refine (awake_calls _).mono ?_
      rintro e w7 ⟨rfl, hb7⟩
      have HB7 := Aside0.mk (below_step HB6.out hb7)
      clear hb7
      go_wp2_with (fail)
      go_ret
      exact ⟨rfl, HB7.out⟩
end Go.Proofs.Ytmofaahhnokohaa.CodeNumbers
