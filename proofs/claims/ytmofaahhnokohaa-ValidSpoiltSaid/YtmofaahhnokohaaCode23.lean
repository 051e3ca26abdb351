/- Walk: valid.Check. -/
import Derived.Test.YtmofaahhnokohaaCode22
import Derived.Test.YtmofaahhnokohaaCode11
namespace Go.Proofs.Ytmofaahhnokohaa.Code
set_option linter.unusedSimpArgs false
set_option linter.unusedVariables false
open Go.RowKit Go.Proofs.YtmofaahhnokohaaW.PrintWords Go.Proofs.YtmofaahhnokohaaW.PrintLast Go.Proofs.YtmofaahhnokohaaW.PrintMore PCodeAll Go.Proofs.YtmofaahhnokohaaW.CanonE
attribute [local go_sem] max2_mx min2_mn max_two min_two max_three min_three max_four min_four

def badL (nf : Nat) (fu : Int) (f : List S26) (k : Nat) : Bool := f.any (fun x => !lookB k nf fu f.length x)
def looksTo (nf : Nat) (fu : Int) (f : List S26) : Nat → Bool
  | 0 => true
  | k + 1 => looksTo nf fu f k && !badL nf fu f k
def chkF (nf : Nat) (fu : Int) (f : List S26) : Bool := endsB f && looksTo nf fu f 5
def vErr (p : PG) : Int := if errOf p = 0 then (if p.fs.length = 0 then 5 else if p.fs.all (chkF p.fs.length p.fu) = true then 0 else 5) else errOf p
theorem looks_no (nf : Nat) (fu : Int) (f : List S26) (k : Nat) (hk : k < 5) (h : badL nf fu f k = true) : looksTo nf fu f 5 = false := by
  have h5 : k = 0 ∨ k = 1 ∨ k = 2 ∨ k = 3 ∨ k = 4 := by omega
  rcases h5 with rfl | rfl | rfl | rfl | rfl <;> simp [looksTo, h]
theorem chk_no_ends {nf : Nat} {fu : Int} {f : List S26} (h : endsB f = false) : chkF nf fu f = false := by rw [chkF, h]; rfl
theorem chk_no_looks {nf : Nat} {fu : Int} {f : List S26} (h : looksTo nf fu f 5 = false) : chkF nf fu f = false := by rw [chkF, h, Bool.and_false]
theorem chk_yes {nf : Nat} {fu : Int} {f : List S26} (h : endsB f = true) (h2 : looksTo nf fu f 5 = true) : chkF nf fu f = true := by rw [chkF, h, h2]; rfl
theorem verr_bad {p : PG} (h0 : errOf p = 0) (hn : p.fs.length ≠ 0) (h : p.fs.all (chkF p.fs.length p.fu) = false) : vErr p = 5 := by
  rw [vErr, if_pos h0, if_neg hn, if_neg (by rw [h]; exact Bool.false_ne_true)]
theorem verr_ok {p : PG} (h0 : errOf p = 0) (hn : p.fs.length ≠ 0) (h : p.fs.all (chkF p.fs.length p.fu) = true) : vErr p = 0 := by
  rw [vErr, if_pos h0, if_neg hn, if_pos h]
theorem verr_none {p : PG} (h0 : errOf p = 0) (hn : p.fs.length = 0) : vErr p = 5 := by rw [vErr, if_pos h0, if_pos hn]
theorem verr_err {p : PG} (h0 : errOf p ≠ 0) : vErr p = errOf p := by rw [vErr, if_neg h0]
theorem sl75 : Try.prog.underlying 75 = some (.slice (Try.prog.elem 75)) := by kernel_rfl
theorem sz75 (w : World) : (sizeOf (Try.prog.elem 75)).run Try.prog w = .ok 1 w := by rfl
theorem ix75 (g : Nat) (len : Nat) (c : Nat) (i : Int) (n : Nat) (W : World) (h0 : 0 ≤ i) (h1 : i < len) (hn : i.toNat = n) :
    (Instr.indexAt 75 (.slice (some ⟨g, 0, none⟩) len c) (.int .i64 i)).run Try.prog W = .ok (.pointer (some ⟨g, n, none⟩)) W := by
  rw [run_indexAt_slice (h := sl75), if_pos ⟨h0, h1⟩, sz75, ← hn]
  show Result.ok (Value.pointer (some ((⟨g, 0, none⟩ : Addr).add (i.toNat * 1)))) W = _
  rw [Nat.mul_one, add_plain]

set_option maxHeartbeats 2000000 in
theorem Check_calls (p : PG) (A : Option Addr) (c : Nat) (w : World) (hC : p.C w A) :
    Calls Try.prog 24 #[p.val A c] w fun e w' => e = .returned (.int .i64 (vErr p)) ∧ Below w.heap.size w w' := by
  have S0 := Aside0.mk (heap_alloc_new w (.cells #[.slice A p.fs.length c, .int .i64 p.fu, .int .i64 p.de, .int .i64 p.fl] 33))
  have HB := Aside0.mk (below_alloc (Below.refl w.heap.size w) (.cells #[.slice A p.fs.length c, .int .i64 p.fu, .int .i64 p.de, .int .i64 p.fl] 33))
  have HC := Aside0.mk (Kd.C_below hC HB.out)
  obtain ⟨r0, r1, r2, r3⟩ := ps_reads S0.out
  clear hC
  show Calls Try.prog 24 #[.agg #[.slice A p.fs.length c, .int .i64 p.fu, .int .i64 p.de, .int .i64 p.fl]] w _
  go_enter Try.func24, Try.ntmps24
  go_wp2_with (fail)
  refine (Put_calls p A c _ HC.out).mono ?_
  rintro e w1 ⟨rfl, hb1⟩
  have S1 := Aside0.mk (blk_below S0.out hb1)
  have HC1 := Aside0.mk (Kd.C_below HC.out hb1)
  have HB2 := Aside0.mk (below_step HB.out hb1)
  clear r0 r1 r2 r3 S0 HC HB hb1
  by_cases h0 : errOf p = 0
  case neg =>
    have HE := Aside0.mk (verr_err h0)
    obtain ⟨er, her⟩ : ∃ er, errOf p = er := ⟨_, rfl⟩
    rw [her] at h0 HE
    rw [her, if_neg h0]
    have t0 : (er != 0) = true := bne_iff_ne.mpr h0
    clear h0 her
    go_wp2_with (fail)
    go_ret
    exact ⟨by rw [HE.out]; rfl, HB2.out⟩
  rw [h0, if_pos rfl]
  have HE0 := Aside0.mk h0
  clear h0
  obtain ⟨r0, r1, r2, r3⟩ := ps_reads S1.out
  by_cases hn : p.fs.length = 0
  · have HE := Aside0.mk (verr_none HE0.out hn)
    have t0 : ((p.fs.length : Int) == 0) = true := beq_iff_eq.mpr (by omega)
    clear hn
    go_wp2_with (fail)
    go_ret
    exact ⟨by rw [HE.out]; rfl, HB2.out⟩
  have HNZ := Aside0.mk hn
  have t0 : ((p.fs.length : Int) == 0) = false := beq_eq_false_iff_ne.mpr (by omega)
  clear hn
  go_wp2_with (fail)
  clear r0 r1 r2 r3 t0
  go_loopw [24] (fun u w' => ∃ k : Nat, u = .int .i64 k ∧ k ≤ p.fs.length ∧ Aside0 ((p.fs.take k).all (chkF p.fs.length p.fu) = true) ∧ Aside0 (Below w1.heap.size w1 w')) (fun u _ => p.fs.length - (intOf u).toNat)
  case atStart => exact ⟨0, rfl, by omega, ⟨rfl⟩, ⟨Below.refl _ _⟩⟩
  case round =>
    obtain ⟨k, rfl, hk, HK, HJ⟩ := hrel
    by_cases hlt : k < p.fs.length
    · obtain ⟨ad, A0, c0, rfl, a0', _, hA0⟩ := at_L2 HC1.out k (by omega) (by omega)
      rw [Int.toNat_natCast, rd_L2_at p.fs k hlt] at a0'
      rw [rd_L2_at p.fs k hlt] at hA0
      have hix := fun (W : World) => ix31 ad p.fs.length c (k : Int) k W (by omega) (by omega) (Int.toNat_natCast k)
      have hst := all_step (chkF p.fs.length p.fu) p.fs k hlt
      rw [HK.out] at hst
      obtain ⟨f, hf⟩ : ∃ f, p.fs[k]'hlt = f := ⟨_, rfl⟩
      have HFE := Aside0.mk hf
      rw [hf] at a0' hA0 hst
      have a0 := cell_below a0' HJ.out
      have HFC0 := Aside0.mk (Kd.C_below hA0 HJ.out)
      have HST := Aside0.mk hst
      have HLT := Aside0.mk hlt
      have HW5 := Aside0.mk (wrap_next hlt HC1.out.2.1)
      have N6 := heap_alloc_new wr (.cells #[.slice A0 f.length c0] 38)
      have h6 := cell_of_row _ wr.heap.size 0 _ 38 (0, 0) N6
      have hal := below_alloc (Below.refl wr.heap.size wr) (.cells #[.slice A0 f.length c0] 38)
      have HJ1 := Aside0.mk (below_step HJ.out hal)
      have HFC1 := Aside0.mk (Kd.C_below HFC0.out hal)
      have H60 := Aside0.mk (show (wr.alloc (.cells #[.slice A0 f.length c0] 38)).cell? ⟨wr.heap.size, 0, none⟩ = some (.slice A0 f.length c0) from h6)
      clear hf hst hA0 a0' N6 hal
      go_wp2_with (fail)
      clear a0 hix h6
      refine (ends_calls f A0 c0 _ HFC1.out).mono ?_
      rintro e w' ⟨rfl, rfl⟩
      revert HJ1 HFC1 H60
      generalize wr.alloc (.cells #[.slice A0 f.length c0] 38) = w2
      generalize wr.heap.size = b6
      intro HJ1 HFC1 H60
      obtain ⟨en, hen⟩ : ∃ en, endsB f = en := ⟨_, rfl⟩
      have HEN := Aside0.mk hen
      rw [hen]
      clear hen
      cases en with
      | false =>
        have HE := Aside0.mk (verr_bad HE0.out HNZ.out (all_here _ p.fs k HLT.out (by rw [HFE.out]; exact chk_no_ends HEN.out)))
        have HB9 := Aside0.mk (below_step HB2.out HJ1.out)
        go_wp2_with (fail)
        go_ret
        exact ⟨by rw [HE.out]; rfl, HB9.out⟩
      | true =>
        go_wp2_with (fail)
        refine (looks_calls _).mono ?_
        rintro e w3 ⟨bl, gl, rfl, hbl, hgl, hb3⟩
        have HL3 := Aside0.mk hgl
        have HBL := Aside0.mk hbl
        have HJ3 := Aside0.mk (below_step HJ1.out hb3)
        have HFC := Aside0.mk (Kd.C_below HFC1.out hb3)
        have H6 := Aside0.mk (cell_below H60.out hb3)
        have HB1 := Aside0.mk (blk_below S1.out HJ3.out)
        have HBW := Aside0.mk (below_step HB2.out HJ3.out)
        clear hgl hbl hb3 HFC0 HJ
        go_wp2_with (fail)
        go_loopw [33] (fun u w' => ∃ j : Nat, u = .int .i64 j ∧ j ≤ 5 ∧ Aside0 (looksTo p.fs.length p.fu f j = true) ∧ Aside0 (Below w3.heap.size w3 w')) (fun u _ => 5 - (intOf u).toNat)
        case atStart => exact ⟨0, rfl, by omega, ⟨rfl⟩, ⟨Below.refl _ _⟩⟩
        case round =>
          obtain ⟨j, rfl, hj, HLK, HJ2⟩ := hrel
          have h5 : j = 0 ∨ j = 1 ∨ j = 2 ∨ j = 3 ∨ j = 4 ∨ j = 5 := by omega
          clear hj
          rcases h5 with rfl | rfl | rfl | rfl | rfl | rfl
          · have hix := fun (W : World) => ix75 gl 5 5 (0) 0 W (by omega) (by omega) rfl
            have hcl := HL3.out 0 (by omega)
            simp only [lookV] at hcl
            have hclw := cell_below hcl HJ2.out
            have h6w := cell_below H6.out HJ2.out
            have h6v := cell_below h6w (below_alloc (Below.refl _ _) (.cells #[.func (.func 49) #[] #[.pointer (some ⟨bl, 0, none⟩)]] 78))
            have N8 := heap_alloc_new wr (.cells #[.func (.func 49) #[] #[.pointer (some ⟨bl, 0, none⟩)]] 78)
            have HP43 := Aside0.mk (show Pred26 43 #[.pointer (some ⟨wr.heap.size, 0, none⟩), .pointer (some ⟨w.heap.size, 0, none⟩), .pointer (some ⟨b6, 0, none⟩)] (fun x => !lookB 0 p.fs.length p.fu f.length x) (wr.alloc (.cells #[.func (.func 49) #[] #[.pointer (some ⟨bl, 0, none⟩)]] 78)) from fun W x hW =>
              clo43_calls 0 (by omega) (some ad) A0 p.fs.length c f.length c0 p.fu p.de p.fl x bl wr.heap.size w.heap.size b6 W (cell_below (cell_below (cell_below HBL.out HJ2.out) (below_alloc (Below.refl _ _) _)) hW)
                (cell_below (cell_of_row _ _ 0 _ 78 (0, 0) N8) hW) (blk_below (blk_alloc (blk_below HB1.out HJ2.out) _) hW) (cell_below h6v hW))
            have HJA := Aside0.mk (below_alloc HJ2.out (.cells #[.func (.func 49) #[] #[.pointer (some ⟨bl, 0, none⟩)]] 78))
            have HBD := Aside0.mk (show badL p.fs.length p.fu f 0 = f.any (fun x => !lookB 0 p.fs.length p.fu f.length x) from rfl)
            obtain ⟨bd, hbd⟩ : ∃ bd, badL p.fs.length p.fu f 0 = bd := ⟨_, rfl⟩
            have HBE := Aside0.mk hbd
            clear N8 hcl h6w hbd
            go_wp2_with (fail)
            refine (Contains43_calls _ (fun x => !lookB 0 p.fs.length p.fu f.length x) f A0 c0 _ (Kd.C_below HFC.out HJA.out) HP43.out).mono ?_
            rintro e w5 ⟨rfl, hb5⟩
            rw [← HBD.out, HBE.out]
            have HJ5 := Aside0.mk (below_step HJA.out hb5)
            clear hb5 hix hclw h6v HP43 HJA
            cases bd with
            | true =>
              have HE := Aside0.mk (verr_bad HE0.out HNZ.out (all_here _ p.fs k HLT.out (by rw [HFE.out]; exact chk_no_looks (looks_no _ _ _ 0 (by omega) HBE.out))))
              have HB9 := Aside0.mk (below_step HBW.out HJ5.out)
              go_wp2_with (fail)
              go_ret
              exact ⟨by rw [HE.out]; rfl, HB9.out⟩
            | false =>
              go_wp2_with (fail)
              go_roundw
              case rel => exact ⟨0 + 1, rfl, by omega, ⟨by rw [looksTo, HLK.out, HBE.out]; rfl⟩, HJ5⟩
              case measure => simp [intOf]
          · have hix := fun (W : World) => ix75 gl 5 5 (1) 1 W (by omega) (by omega) rfl
            have hcl := HL3.out 1 (by omega)
            simp only [lookV] at hcl
            have hclw := cell_below hcl HJ2.out
            have h6w := cell_below H6.out HJ2.out
            have h6v := cell_below h6w (below_alloc (Below.refl _ _) (.cells #[.func (.func 50) #[] #[.pointer (some ⟨bl, 0, none⟩)]] 78))
            have N8 := heap_alloc_new wr (.cells #[.func (.func 50) #[] #[.pointer (some ⟨bl, 0, none⟩)]] 78)
            have HP43 := Aside0.mk (show Pred26 43 #[.pointer (some ⟨wr.heap.size, 0, none⟩), .pointer (some ⟨w.heap.size, 0, none⟩), .pointer (some ⟨b6, 0, none⟩)] (fun x => !lookB 1 p.fs.length p.fu f.length x) (wr.alloc (.cells #[.func (.func 50) #[] #[.pointer (some ⟨bl, 0, none⟩)]] 78)) from fun W x hW =>
              clo43_calls 1 (by omega) (some ad) A0 p.fs.length c f.length c0 p.fu p.de p.fl x bl wr.heap.size w.heap.size b6 W (cell_below (cell_below (cell_below HBL.out HJ2.out) (below_alloc (Below.refl _ _) _)) hW)
                (cell_below (cell_of_row _ _ 0 _ 78 (0, 0) N8) hW) (blk_below (blk_alloc (blk_below HB1.out HJ2.out) _) hW) (cell_below h6v hW))
            have HJA := Aside0.mk (below_alloc HJ2.out (.cells #[.func (.func 50) #[] #[.pointer (some ⟨bl, 0, none⟩)]] 78))
            have HBD := Aside0.mk (show badL p.fs.length p.fu f 1 = f.any (fun x => !lookB 1 p.fs.length p.fu f.length x) from rfl)
            obtain ⟨bd, hbd⟩ : ∃ bd, badL p.fs.length p.fu f 1 = bd := ⟨_, rfl⟩
            have HBE := Aside0.mk hbd
            clear N8 hcl h6w hbd
            go_wp2_with (fail)
            refine (Contains43_calls _ (fun x => !lookB 1 p.fs.length p.fu f.length x) f A0 c0 _ (Kd.C_below HFC.out HJA.out) HP43.out).mono ?_
            rintro e w5 ⟨rfl, hb5⟩
            rw [← HBD.out, HBE.out]
            have HJ5 := Aside0.mk (below_step HJA.out hb5)
            clear hb5 hix hclw h6v HP43 HJA
            cases bd with
            | true =>
              have HE := Aside0.mk (verr_bad HE0.out HNZ.out (all_here _ p.fs k HLT.out (by rw [HFE.out]; exact chk_no_looks (looks_no _ _ _ 1 (by omega) HBE.out))))
              have HB9 := Aside0.mk (below_step HBW.out HJ5.out)
              go_wp2_with (fail)
              go_ret
              exact ⟨by rw [HE.out]; rfl, HB9.out⟩
            | false =>
              go_wp2_with (fail)
              go_roundw
              case rel => exact ⟨1 + 1, rfl, by omega, ⟨by rw [looksTo, HLK.out, HBE.out]; rfl⟩, HJ5⟩
              case measure => simp [intOf]
          · have hix := fun (W : World) => ix75 gl 5 5 (2) 2 W (by omega) (by omega) rfl
            have hcl := HL3.out 2 (by omega)
            simp only [lookV] at hcl
            have hclw := cell_below hcl HJ2.out
            have h6w := cell_below H6.out HJ2.out
            have h6v := cell_below h6w (below_alloc (Below.refl _ _) (.cells #[.func (.func 51) #[] #[]] 78))
            have N8 := heap_alloc_new wr (.cells #[.func (.func 51) #[] #[]] 78)
            have HP43 := Aside0.mk (show Pred26 43 #[.pointer (some ⟨wr.heap.size, 0, none⟩), .pointer (some ⟨w.heap.size, 0, none⟩), .pointer (some ⟨b6, 0, none⟩)] (fun x => !lookB 2 p.fs.length p.fu f.length x) (wr.alloc (.cells #[.func (.func 51) #[] #[]] 78)) from fun W x hW =>
              clo43_calls 2 (by omega) (some ad) A0 p.fs.length c f.length c0 p.fu p.de p.fl x bl wr.heap.size w.heap.size b6 W (cell_below (cell_below (cell_below HBL.out HJ2.out) (below_alloc (Below.refl _ _) _)) hW)
                (cell_below (cell_of_row _ _ 0 _ 78 (0, 0) N8) hW) (blk_below (blk_alloc (blk_below HB1.out HJ2.out) _) hW) (cell_below h6v hW))
            have HJA := Aside0.mk (below_alloc HJ2.out (.cells #[.func (.func 51) #[] #[]] 78))
            have HBD := Aside0.mk (show badL p.fs.length p.fu f 2 = f.any (fun x => !lookB 2 p.fs.length p.fu f.length x) from rfl)
            obtain ⟨bd, hbd⟩ : ∃ bd, badL p.fs.length p.fu f 2 = bd := ⟨_, rfl⟩
            have HBE := Aside0.mk hbd
            clear N8 hcl h6w hbd
            go_wp2_with (fail)
            refine (Contains43_calls _ (fun x => !lookB 2 p.fs.length p.fu f.length x) f A0 c0 _ (Kd.C_below HFC.out HJA.out) HP43.out).mono ?_
            rintro e w5 ⟨rfl, hb5⟩
            rw [← HBD.out, HBE.out]
            have HJ5 := Aside0.mk (below_step HJA.out hb5)
            clear hb5 hix hclw h6v HP43 HJA
            cases bd with
            | true =>
              have HE := Aside0.mk (verr_bad HE0.out HNZ.out (all_here _ p.fs k HLT.out (by rw [HFE.out]; exact chk_no_looks (looks_no _ _ _ 2 (by omega) HBE.out))))
              have HB9 := Aside0.mk (below_step HBW.out HJ5.out)
              go_wp2_with (fail)
              go_ret
              exact ⟨by rw [HE.out]; rfl, HB9.out⟩
            | false =>
              go_wp2_with (fail)
              go_roundw
              case rel => exact ⟨2 + 1, rfl, by omega, ⟨by rw [looksTo, HLK.out, HBE.out]; rfl⟩, HJ5⟩
              case measure => simp [intOf]
          · have hix := fun (W : World) => ix75 gl 5 5 (3) 3 W (by omega) (by omega) rfl
            have hcl := HL3.out 3 (by omega)
            simp only [lookV] at hcl
            have hclw := cell_below hcl HJ2.out
            have h6w := cell_below H6.out HJ2.out
            have h6v := cell_below h6w (below_alloc (Below.refl _ _) (.cells #[.func (.func 52) #[] #[]] 78))
            have N8 := heap_alloc_new wr (.cells #[.func (.func 52) #[] #[]] 78)
            have HP43 := Aside0.mk (show Pred26 43 #[.pointer (some ⟨wr.heap.size, 0, none⟩), .pointer (some ⟨w.heap.size, 0, none⟩), .pointer (some ⟨b6, 0, none⟩)] (fun x => !lookB 3 p.fs.length p.fu f.length x) (wr.alloc (.cells #[.func (.func 52) #[] #[]] 78)) from fun W x hW =>
              clo43_calls 3 (by omega) (some ad) A0 p.fs.length c f.length c0 p.fu p.de p.fl x bl wr.heap.size w.heap.size b6 W (cell_below (cell_below (cell_below HBL.out HJ2.out) (below_alloc (Below.refl _ _) _)) hW)
                (cell_below (cell_of_row _ _ 0 _ 78 (0, 0) N8) hW) (blk_below (blk_alloc (blk_below HB1.out HJ2.out) _) hW) (cell_below h6v hW))
            have HJA := Aside0.mk (below_alloc HJ2.out (.cells #[.func (.func 52) #[] #[]] 78))
            have HBD := Aside0.mk (show badL p.fs.length p.fu f 3 = f.any (fun x => !lookB 3 p.fs.length p.fu f.length x) from rfl)
            obtain ⟨bd, hbd⟩ : ∃ bd, badL p.fs.length p.fu f 3 = bd := ⟨_, rfl⟩
            have HBE := Aside0.mk hbd
            clear N8 hcl h6w hbd
            go_wp2_with (fail)
            refine (Contains43_calls _ (fun x => !lookB 3 p.fs.length p.fu f.length x) f A0 c0 _ (Kd.C_below HFC.out HJA.out) HP43.out).mono ?_
            rintro e w5 ⟨rfl, hb5⟩
            rw [← HBD.out, HBE.out]
            have HJ5 := Aside0.mk (below_step HJA.out hb5)
            clear hb5 hix hclw h6v HP43 HJA
            cases bd with
            | true =>
              have HE := Aside0.mk (verr_bad HE0.out HNZ.out (all_here _ p.fs k HLT.out (by rw [HFE.out]; exact chk_no_looks (looks_no _ _ _ 3 (by omega) HBE.out))))
              have HB9 := Aside0.mk (below_step HBW.out HJ5.out)
              go_wp2_with (fail)
              go_ret
              exact ⟨by rw [HE.out]; rfl, HB9.out⟩
            | false =>
              go_wp2_with (fail)
              go_roundw
              case rel => exact ⟨3 + 1, rfl, by omega, ⟨by rw [looksTo, HLK.out, HBE.out]; rfl⟩, HJ5⟩
              case measure => simp [intOf]
          · have hix := fun (W : World) => ix75 gl 5 5 (4) 4 W (by omega) (by omega) rfl
            have hcl := HL3.out 4 (by omega)
            simp only [lookV] at hcl
            have hclw := cell_below hcl HJ2.out
            have h6w := cell_below H6.out HJ2.out
            have h6v := cell_below h6w (below_alloc (Below.refl _ _) (.cells #[.func (.func 53) #[] #[]] 78))
            have N8 := heap_alloc_new wr (.cells #[.func (.func 53) #[] #[]] 78)
            have HP43 := Aside0.mk (show Pred26 43 #[.pointer (some ⟨wr.heap.size, 0, none⟩), .pointer (some ⟨w.heap.size, 0, none⟩), .pointer (some ⟨b6, 0, none⟩)] (fun x => !lookB 4 p.fs.length p.fu f.length x) (wr.alloc (.cells #[.func (.func 53) #[] #[]] 78)) from fun W x hW =>
              clo43_calls 4 (by omega) (some ad) A0 p.fs.length c f.length c0 p.fu p.de p.fl x bl wr.heap.size w.heap.size b6 W (cell_below (cell_below (cell_below HBL.out HJ2.out) (below_alloc (Below.refl _ _) _)) hW)
                (cell_below (cell_of_row _ _ 0 _ 78 (0, 0) N8) hW) (blk_below (blk_alloc (blk_below HB1.out HJ2.out) _) hW) (cell_below h6v hW))
            have HJA := Aside0.mk (below_alloc HJ2.out (.cells #[.func (.func 53) #[] #[]] 78))
            have HBD := Aside0.mk (show badL p.fs.length p.fu f 4 = f.any (fun x => !lookB 4 p.fs.length p.fu f.length x) from rfl)
            obtain ⟨bd, hbd⟩ : ∃ bd, badL p.fs.length p.fu f 4 = bd := ⟨_, rfl⟩
            have HBE := Aside0.mk hbd
            clear N8 hcl h6w hbd
            go_wp2_with (fail)
            refine (Contains43_calls _ (fun x => !lookB 4 p.fs.length p.fu f.length x) f A0 c0 _ (Kd.C_below HFC.out HJA.out) HP43.out).mono ?_
            rintro e w5 ⟨rfl, hb5⟩
            rw [← HBD.out, HBE.out]
            have HJ5 := Aside0.mk (below_step HJA.out hb5)
            clear hb5 hix hclw h6v HP43 HJA
            cases bd with
            | true =>
              have HE := Aside0.mk (verr_bad HE0.out HNZ.out (all_here _ p.fs k HLT.out (by rw [HFE.out]; exact chk_no_looks (looks_no _ _ _ 4 (by omega) HBE.out))))
              have HB9 := Aside0.mk (below_step HBW.out HJ5.out)
              go_wp2_with (fail)
              go_ret
              exact ⟨by rw [HE.out]; rfl, HB9.out⟩
            | false =>
              go_wp2_with (fail)
              go_roundw
              case rel => exact ⟨4 + 1, rfl, by omega, ⟨by rw [looksTo, HLK.out, HBE.out]; rfl⟩, HJ5⟩
              case measure => simp [intOf]
          · have HN := Aside0.mk (show (p.fs.take (k + 1)).all (chkF p.fs.length p.fu) = true by rw [HST.out, chk_yes HEN.out HLK.out]; rfl)
            have HJ9 := Aside0.mk (below_step HJ3.out HJ2.out)
            go_wp2_with (fail)
            go_roundw
            case rel => exact ⟨k + 1, num_next HW5.out, Nat.succ_le_of_lt HLT.out, HN, HJ9⟩
            case measure => exact meas_next HLT.out HW5.out
    · have hkd : decide (k < p.fs.length) = false := decide_eq_false hlt
      have HE := Aside0.mk (verr_ok HE0.out HNZ.out (by have h := HK.out; rwa [List.take_of_length_le (Nat.le_of_not_lt hlt)] at h))
      have HB9 := Aside0.mk (below_step HB2.out HJ.out)
      clear hlt hk
      go_wp2_with (fail)
      go_ret
      exact ⟨by rw [HE.out]; rfl, HB9.out⟩
end Go.Proofs.Ytmofaahhnokohaa.Code
