/- Walk of the reference: Put. -/
import Derived.Test.YtmofaahhnokohaaCode10
import Derived.Test.YtmofaahhnokohaaCode11
import Derived.Test.YtmofaahhnokohaaCode12
import Derived.Test.YtmofaahhnokohaaCode15
import Derived.Test.YtmofaahhnokohaaPCodeAllx1
namespace Go.Proofs.Ytmofaahhnokohaa.Code
set_option linter.unusedSimpArgs false
set_option linter.unusedVariables false
open Go.RowKit Go.Proofs.YtmofaahhnokohaaW.PrintWords Go.Proofs.YtmofaahhnokohaaW.PrintLast Go.Proofs.YtmofaahhnokohaaW.PrintMore PCodeAll Go.Proofs.YtmofaahhnokohaaW.CanonE
attribute [local go_sem] max2_mx min2_mn max_two min_two max_three min_three max_four min_four

theorem bs_append (a b : List UInt8) : bs a ++ bs b = bs (a ++ b) := by
  apply ByteArray.ext
  rw [ByteArray.data_append]
  simp [bs]
theorem str_u8 (ys : List Int) : strOfNums ys = bs (ys.map u8) := rfl
theorem rins_f (x : S26) : magpieref02_ins.f x.f0 x.f1 x.f2 x.f3 = some (bs ((insB x).map u8)) := by
  unfold magpieref02_ins.f magpieref02_four.f
  simp only [Option.bind_some]
  by_cases h : x.f0 = 1
  · rw [if_pos h, if_pos (by rw [str_u8, str_u8, bs_size, bs_size]; simp), str_u8, str_u8, bs_append, ← List.map_append]
    simp only [insB, if_pos h, bigB, byteAt_0, byteAt_1, byteAt_2, byteAt_3]
  · rw [if_neg h, str_u8]
    simp only [insB, if_neg h, List.cons_append, List.nil_append]
theorem refins_calls (x : S26) (w : World) :
    Calls Try.prog 34 #[.agg #[.int .i64 x.f0, .int .i64 x.f1, .int .i64 x.f2, .int .i64 x.f3]] w fun e w' => e = .returned (.string (bs ((insB x).map u8))) ∧ Below w.heap.size w w' :=
  magpieref02_ins.calls _ _ _ _ _ w (rins_f x)
/-- The bytes so far. -/
def pre (p : PG) (k : Nat) : List UInt8 := (hdr p ++ (p.fs.take k).flatMap funB).map u8
theorem pre_len (p : PG) (h : p.fs.any longF = false) (k : Nat) (hk : k ≤ 12) : (pre p k).length ≤ 3000 := by
  have h1 := fs_len p.fs h k
  have h2 := hdr_len p
  rw [pre, List.length_map, List.length_append]
  omega
theorem pre_step (p : PG) (k : Nat) (h : k < p.fs.length) : pre p (k + 1) = pre p k ++ (funB (p.fs[k]'h)).map u8 := by
  rw [pre, pre, fm_step funB p.fs k h, ← List.append_assoc, List.map_append]
theorem pre_all (p : PG) : pre p p.fs.length = (putB p).map u8 := by
  rw [pre, List.take_length, putB]
theorem fun_bytes (f : List S26) (j : Nat) : ((f.take j).flatMap insB).length ≤ 6 * j := fm_len f j
theorem pre_zero (p : PG) (h : p.fs.length ≤ 12) : ({ data := #[77, 71, 80] } : ByteArray) ++ strOfNums [p.fu % 256, p.de % 256, p.fl / 256 % 256, p.fl % 256, (p.fs.length : Int)] = bs (pre p 0) := by
  rw [str_u8]
  have e : ({ data := #[77, 71, 80] } : ByteArray) = bs [77, 71, 80] := rfl
  rw [e, bs_append, pre, List.take_zero, List.flatMap_nil, List.append_nil]
  simp only [hdr, bigB, byteAt_0, byteAt_1, List.map, List.cons_append, List.nil_append]
  rw [show (p.fs.length : Int) % 256 = p.fs.length by omega]
  rfl
def pre2 (X : List UInt8) (f : List S26) (j : Nat) : List UInt8 := X ++ (u8 (f.length : Int) :: ((f.take j).flatMap insB).map u8)
theorem pre2_zero (X : List UInt8) (f : List S26) : bs X ++ bs [u8 (f.length : Int)] = bs (pre2 X f 0) := by
  rw [bs_append, pre2]
  rfl
theorem pre2_step (X : List UInt8) (f : List S26) (j : Nat) (h : j < f.length) : bs (pre2 X f j) ++ bs ((insB (f[j]'h)).map u8) = bs (pre2 X f (j + 1)) := by
  rw [bs_append, pre2, pre2, fm_step insB f j h, List.map_append, List.append_assoc, List.cons_append]
theorem pre2_all (X : List UInt8) (f : List S26) (h : f.length ≤ 40) : pre2 X f f.length = X ++ (funB f).map u8 := by
  rw [pre2, List.take_length, funB, List.map_cons, show (f.length : Int) % 256 = f.length by omega]
theorem pre2_len (X : List UInt8) (f : List S26) (j : Nat) (hX : X.length ≤ 3000) (hj : j ≤ 40) : (pre2 X f j).length ≤ 4000 := by
  have := fm_len f j
  rw [pre2, List.length_append, List.length_cons, List.length_map]
  omega
theorem ins_u8_len (x : S26) : ((insB x).map u8).length ≤ 6 := by
  rw [List.length_map]
  exact insB_len x
theorem no_over {a b : ByteArray} (ha : a.size ≤ 4000) (hb : b.size ≤ 10) : ¬ 9223372036854775807 < a.size + b.size := by omega


set_option maxRecDepth 100000 in
set_option maxHeartbeats 2000000 in
theorem RPut_calls (p : PG) (A : Option Addr) (c : Nat) (w : World) (hC : p.C w A) :
    Calls Try.prog 18 #[p.val A c] w fun e w' => e = .returned (.tuple #[.string (if errOf p = 0 then strOfNums (putB p) else ⟨#[]⟩), .int .i64 (errOf p)]) ∧ Below w.heap.size w w' := by
  obtain ⟨RES, hRES⟩ : ∃ v, Value.tuple #[.string (if errOf p = 0 then strOfNums (putB p) else ⟨#[]⟩), .int .i64 (errOf p)] = v := ⟨_, rfl⟩
  rw [hRES]
  have ES := Aside0.mk hRES.symm
  clear hRES
  have S0 := Aside0.mk (show (w.alloc (.cells #[.slice A p.fs.length c, .int .i64 p.fu, .int .i64 p.de, .int .i64 p.fl] 33)).heap[w.heap.size]? = some (.cells (p.cells A c) 33 (0, 0)) from heap_alloc_new w _)
  have HB := Aside0.mk (below_alloc (Below.refl w.heap.size w) (.cells #[.slice A p.fs.length c, .int .i64 p.fu, .int .i64 p.de, .int .i64 p.fl] 33))
  have HC0 := Aside0.mk hC
  clear hC
  show Calls Try.prog 18 #[.agg #[.slice A p.fs.length c, .int .i64 p.fu, .int .i64 p.de, .int .i64 p.fl]] w _
  by_cases h12 : 12 < p.fs.length
  · have E := Aside0.mk (err_long1 h12)
    obtain ⟨r0, r1, r2, r3⟩ := prog_reads S0.out
    clear S0 HC0
    go_enter Try.func18, Try.ntmps18
    go_wp2_with (fail)
    go_ret2
    exact ⟨by rw [ES.out, E.out, if_neg (by decide)]; rfl, HB.out⟩
  have H12 := Aside0.mk h12
  obtain ⟨r0, r1, r2, r3⟩ := prog_reads S0.out
  go_enter Try.func18, Try.ntmps18
  go_wp2_with (fail)
  clear r0 r1 r2 r3 h12
  revert S0 HB
  generalize w.alloc (.cells #[.slice A p.fs.length c, .int .i64 p.fu, .int .i64 p.de, .int .i64 p.fl] 33) = w1
  intro S0 HB
  go_loopw [4] (fun u w' => ∃ k : Nat, u = .int .i64 k ∧ k ≤ p.fs.length ∧ Aside0 ((p.fs.take k).any longF = false) ∧ w' = w1) (fun u _ => p.fs.length - (intOf u).toNat)
  case atStart => exact ⟨0, rfl, by omega, ⟨rfl⟩, rfl⟩
  case round =>
    obtain ⟨k, rfl, hk, HK, rfl⟩ := hrel
    obtain ⟨r0, r1, r2, r3⟩ := prog_reads S0.out
    by_cases hlt : k < p.fs.length
    · obtain ⟨ad, A0, c0, rfl, a0, hA0, _⟩ := at_L2 (Kd.C_below HC0.out HB.out) k (by omega) (by omega)
      rw [Int.toNat_natCast, rd_L2_at p.fs k hlt] at a0
      have hix := fun (W : World) => ix31 ad p.fs.length c (k : Int) k W (by omega) (by omega) (Int.toNat_natCast k)
      obtain ⟨f, hf⟩ : ∃ f, p.fs[k]'hlt = f := ⟨_, rfl⟩
      have hst := any_step longF p.fs k hlt
      rw [HK.out, hf] at hst
      rw [hf] at a0
      have HST := Aside0.mk hst
      clear hst hA0
      by_cases h40 : 40 < f.length
      · have E := Aside0.mk (err_long2 H12.out (any_here longF p.fs k hlt (by rw [hf]; exact decide_eq_true h40)))
        go_wp2_with (fail)
        go_ret2
        exact ⟨by rw [ES.out, E.out, if_neg (by decide)]; rfl, HB.out⟩
      · have HST2 := Aside0.mk (show (p.fs.take (k + 1)).any longF = false by rw [HST.out]; exact decide_eq_false h40)
        have HW5 := Aside0.mk (show wrap64 ((k : Int) + 1) = (k : Int) + 1 from wrap64_id _ (by have := H12.out; omega))
        clear hf HST
        have hw5 := HW5.out
        go_wp2_with (fail)
        exact ⟨⟨k + 1, by first | rfl | go_num, by omega, HST2, trivial⟩, by first | exact meas1 hlt HW5.out | (simp only [intOf]; omega)⟩
    · obtain rfl : k = p.fs.length := by omega
      have HL := Aside0.mk (show p.fs.any longF = false by have h := HK.out; rw [List.take_length] at h; exact h)
      clear HK hk
      by_cases n1 : 0 ≤ p.fu
      case neg => 
        have d1 : decide (p.fu < 0) = true := decide_eq_true (by omega)
        have E := Aside0.mk (err_nums H12.out HL.out (decide_eq_false (by omega)))
        clear H12 HL HC0
        go_wp2_with (fail)
        go_ret2
        exact ⟨by rw [ES.out, E.out, if_neg (by decide)]; rfl, HB.out⟩
      have d1 : decide (p.fu < 0) = false := decide_eq_false (by omega)
      by_cases n2 : p.fu ≤ 16
      case neg =>
        have d2 : decide (16 < p.fu) = true := decide_eq_true (by omega)
        have E := Aside0.mk (err_nums H12.out HL.out (decide_eq_false (by omega)))
        clear H12 HL HC0
        go_wp2_with (fail)
        go_ret2
        exact ⟨by rw [ES.out, E.out, if_neg (by decide)]; rfl, HB.out⟩
      have d2 : decide (16 < p.fu) = false := decide_eq_false (by omega)
      by_cases n3 : 0 ≤ p.de
      case neg =>
        have d3 : decide (p.de < 0) = true := decide_eq_true (by omega)
        have E := Aside0.mk (err_nums H12.out HL.out (decide_eq_false (by omega)))
        clear H12 HL HC0
        go_wp2_with (fail)
        go_ret2
        exact ⟨by rw [ES.out, E.out, if_neg (by decide)]; rfl, HB.out⟩
      have d3 : decide (p.de < 0) = false := decide_eq_false (by omega)
      by_cases n4 : p.de ≤ 5
      case neg =>
        have d4 : decide (5 < p.de) = true := decide_eq_true (by omega)
        have E := Aside0.mk (err_nums H12.out HL.out (decide_eq_false (by omega)))
        clear H12 HL HC0
        go_wp2_with (fail)
        go_ret2
        exact ⟨by rw [ES.out, E.out, if_neg (by decide)]; rfl, HB.out⟩
      have d4 : decide (5 < p.de) = false := decide_eq_false (by omega)
      by_cases n5 : 1 ≤ p.fl
      case neg =>
        have d5 : decide (p.fl < 1) = true := decide_eq_true (by omega)
        have E := Aside0.mk (err_nums H12.out HL.out (decide_eq_false (by omega)))
        clear H12 HL HC0
        go_wp2_with (fail)
        go_ret2
        exact ⟨by rw [ES.out, E.out, if_neg (by decide)]; rfl, HB.out⟩
      have d5 : decide (p.fl < 1) = false := decide_eq_false (by omega)
      by_cases n6 : p.fl ≤ 500
      case neg =>
        have d6 : decide (500 < p.fl) = true := decide_eq_true (by omega)
        have E := Aside0.mk (err_nums H12.out HL.out (decide_eq_false (by omega)))
        clear H12 HL HC0
        go_wp2_with (fail)
        go_ret2
        exact ⟨by rw [ES.out, E.out, if_neg (by decide)]; rfl, HB.out⟩
      have d6 : decide (500 < p.fl) = false := decide_eq_false (by omega)
      have HN := Aside0.mk (show numsOk p = true from decide_eq_true ⟨n1, n2, n3, n4, n5, n6⟩)
      clear n1 n2 n3 n4 n5 n6
      have hcv := Kd.C_string (P := Try.prog) (src := 48) (dst := 9) (c := 5) Try.underlying48 Try.underlying5 Try.underlying9 (lit_C wr [p.fu % 256, p.de % 256, p.fl / 256 % 256, p.fl % 256, (p.fs.length : Int)] (by simp))
      simp only [List.map, List.length_cons, List.length_nil] at hcv
      obtain ⟨s0, hs0⟩ : ∃ s0, strOfNums [p.fu % 256, p.de % 256, p.fl / 256 % 256, p.fl % 256, (p.fs.length : Int)] = s0 := ⟨_, rfl⟩
      have HS0 := Aside0.mk (show ({ data := #[77, 71, 80] } : ByteArray) ++ s0 = bs (pre p 0) by rw [← hs0]; exact pre_zero p (by have := H12.out; omega))
      have hsz : s0.size ≤ 100 := by rw [← hs0, strOfNums_size]; simp
      rw [hs0] at hcv
      clear hs0
      go_wp2_with (fail)
      rw [HS0.out]
      have HB1 := Aside0.mk (below_alloc HB.out (.cells #[.int .u8 (p.fu % 256), .int .u8 (p.de % 256), .int .u8 (p.fl / 256 % 256), .int .u8 (p.fl % 256), .int .u8 (p.fs.length : Int)] 5))
      have S1 := Aside0.mk (blk_alloc S0.out (.cells #[.int .u8 (p.fu % 256), .int .u8 (p.de % 256), .int .u8 (p.fl / 256 % 256), .int .u8 (p.fl % 256), .int .u8 (p.fs.length : Int)] 5))
      clear d1 d2 d3 d4 d5 d6 r0 r1 r2 r3 hsz hcv HS0
      revert HB1 S1
      generalize wr.alloc (.cells #[.int .u8 (p.fu % 256), .int .u8 (p.de % 256), .int .u8 (p.fl / 256 % 256), .int .u8 (p.fl % 256), .int .u8 (p.fs.length : Int)] 5) = wq
      intro HB1 S1
      clear HB S0
      go_loopw [5, 6] (fun u5 u6 w' => ∃ k : Nat, u6 = .int .i64 k ∧ k ≤ p.fs.length ∧ u5 = .string (bs (pre p k)) ∧ Aside0 ((p.fs.take k).all (fun f => f.all shape) = true) ∧ Aside0 (Below wq.heap.size wq w')) (fun _ u6 _ => p.fs.length - (intOf u6).toNat)
      case atStart => exact ⟨0, rfl, by omega, rfl, ⟨rfl⟩, ⟨Below.refl _ _⟩⟩
      case round =>
        obtain ⟨k, rfl, hk, rfl, HK, HJ⟩ := hrel
        obtain ⟨r0, r1, r2, r3⟩ := prog_reads (blk_below S1.out HJ.out)
        have HB := Aside0.mk (below_step HB1.out HJ.out)
        by_cases hlt : k < p.fs.length
        · obtain ⟨ad, A0, c0, rfl, a0', hc0, hA0⟩ := at_L2 (Kd.C_below HC0.out HB1.out) k (by omega) (by omega)
          rw [Int.toNat_natCast, rd_L2_at p.fs k hlt] at a0'
          rw [rd_L2_at p.fs k hlt] at hA0 hc0
          have HIX := Aside0.mk (fun (W : World) => ix31 ad p.fs.length c (k : Int) k W (by omega) (by omega) (Int.toNat_natCast k))
          have hps := pre_step p k hlt
          have hpl := pre_len p HL.out k (by have := H12.out; omega)
          obtain ⟨X, hX⟩ : ∃ X, pre p k = X := ⟨_, rfl⟩
          have hbx : (bs X).size ≤ 3000 := by rw [bs_size, ← hX]; exact hpl
          obtain ⟨f, hf⟩ : ∃ f, p.fs[k]'hlt = f := ⟨_, rfl⟩
          have HFE := Aside0.mk hf
          have hst := all_step (fun f => f.all shape) p.fs k hlt
          rw [HK.out, hf] at hst
          rw [hf] at a0' hA0 hc0 hps
          rw [hX] at hps
          rw [hX]
          have hf40 : f.length ≤ 40 := by
            have h2 := List.any_eq_false.mp HL.out f (by rw [← hf]; exact List.getElem_mem hlt)
            simp only [longF, decide_eq_true_eq] at h2
            omega
          have HST := Aside0.mk hst
          have HPS := Aside0.mk hps
          have FC := Aside0.mk hA0
          have A0w := Aside0.mk a0'
          have HF40 := Aside0.mk hf40
          have HW5 := Aside0.mk (show wrap64 ((k : Int) + 1) = (k : Int) + 1 from wrap64_id _ (by have := H12.out; omega))
          clear hst hps hpl hA0 hf hc0 hX
          have a0 := cell_below A0w.out HJ.out
          have hix := HIX.out
          have hcv := Kd.C_string (P := Try.prog) (src := 48) (dst := 9) (c := 1) Try.underlying48 Try.underlying5 Try.underlying9 (lit_C wr [(f.length : Int)] (by simp))
          simp only [List.map, List.length_cons, List.length_nil] at hcv
          rw [show strOfNums [(f.length : Int)] = bs [u8 (f.length : Int)] from rfl] at hcv
          have hnn := no_over (a := bs X) (b := bs [u8 (f.length : Int)]) (by omega) (by rw [bs_size]; simp)
          go_wp2_with (fail)
          rw [pre2_zero]
          have HJ1 := Aside0.mk (below_alloc HJ.out (.cells #[.int .u8 (f.length : Int)] 5))
          have HX3 := Aside0.mk (show X.length ≤ 3000 from hbx)
          clear HJ HB r0 r1 r2 r3 a0 hix hcv hnn hbx
          go_loopw [5, 7] (fun u5 u7 w' => ∃ j : Nat, u7 = .int .i64 j ∧ j ≤ f.length ∧ u5 = .string (bs (pre2 X f j)) ∧ Aside0 ((f.take j).all shape = true) ∧ Aside0 (Below wq.heap.size wq w')) (fun _ u7 _ => f.length - (intOf u7).toNat)
          case atStart => exact ⟨0, rfl, by omega, rfl, ⟨rfl⟩, HJ1⟩
          case round =>
            obtain ⟨j, rfl, hj, rfl, HJJ, HI⟩ := hrel
            clear HJ1
            obtain ⟨r0, r1, r2, r3⟩ := prog_reads (blk_below S1.out HI.out)
            have a0 := cell_below A0w.out HI.out
            have hix := HIX.out
            by_cases hjl : j < f.length
            · obtain ⟨af, rfl, b0', b1', b2', b3'⟩ := at_T26 FC.out j (by omega) (by omega)
              rw [rd_T26_at f j hjl] at b0' b1' b2' b3'
              obtain ⟨nn, hnn⟩ : ∃ nn : Nat, ((j : Int)).toNat * 4 = nn := ⟨_, rfl⟩
              rw [hnn] at b0' b1' b2' b3'
              have hps := pre2_step X f j hjl
              have hpl := pre2_len X f j HX3.out (by have := HF40.out; omega)
              obtain ⟨y, hy⟩ : ∃ y, f[j]'hjl = y := ⟨_, rfl⟩
              have hst := all_step shape f j hjl
              rw [HJJ.out, hy] at hst
              rw [hy] at b0' b1' b2' b3' hps
              have HPS2 := Aside0.mk hps
              have HST2 := Aside0.mk hst
              have HYE := Aside0.mk hy
              have hix2 := fun (W : World) => ix38 af f.length c0 (j : Int) nn W (by omega) (by omega) hnn
              have HIX2 := Aside0.mk hix2
              have B0 := Aside0.mk b0'
              have B1 := Aside0.mk b1'
              have B2 := Aside0.mk b2'
              have B3 := Aside0.mk b3'
              have hw6 : wrap64 ((j : Int) + 1) = (j : Int) + 1 := wrap64_id _ (by have := HF40.out; omega)
              have HW6 := Aside0.mk hw6
              have hnv := Aside0.mk (no_over (a := bs (pre2 X f j)) (b := bs ((insB y).map u8)) hpl (by rw [bs_size]; have := ins_u8_len y; omega))
              obtain ⟨Y, hY⟩ : ∃ Y, pre2 X f j = Y := ⟨_, rfl⟩
              rw [hY] at HPS2 hnv
              rw [hY]
              have b0 := cell_below B0.out HI.out
              have b1 := cell_below B1.out HI.out
              have b2 := cell_below B2.out HI.out
              have b3 := cell_below B3.out HI.out
              clear hst hy hnn hps hpl hw6 hY b0' b1' b2' b3'
              go_wp2_with (fail)
              refine (RShape_calls y _).mono ?_
              rintro e w5 ⟨rfl, hb5⟩
              have HI5 := Aside0.mk (below_step HI.out hb5)
              clear r0 r1 r2 r3 a0 hix hix2 b0 b1 b2 b3 hb5
              rcases hsh : shape y
              · have E := Aside0.mk (err_shape H12.out HL.out HN.out (all_here _ p.fs k hlt (by rw [HFE.out]; exact all_here shape f j hjl (by rw [HYE.out]; exact hsh))))
                have HB := Aside0.mk (below_step HB1.out HI5.out)
                go_wp2_with (fail)
                go_ret2
                exact ⟨by rw [ES.out, E.out, if_neg (by decide)]; rfl, HB.out⟩
              · obtain ⟨r0, r1, r2, r3⟩ := prog_reads (blk_below S1.out HI5.out)
                have a0 := cell_below A0w.out HI5.out
                have hix := HIX.out
                have hix2 := HIX2.out
                have b0 := cell_below B0.out HI5.out
                have b1 := cell_below B1.out HI5.out
                have b2 := cell_below B2.out HI5.out
                have b3 := cell_below B3.out HI5.out
                go_wp2_with (fail)
                refine (refins_calls y _).mono ?_
                rintro e w6 ⟨rfl, hb6⟩
                have HI6 := Aside0.mk (below_step HI5.out hb6)
                have hno := hnv.out
                clear r0 r1 r2 r3 a0 hix hix2 b0 b1 b2 b3 hb6
                go_wp2_with (fail)
                rw [HPS2.out]
                go_roundw
                case rel => exact ⟨j + 1, by first | rfl | exact num_next HW6.out, Nat.succ_le_of_lt hjl, rfl, ⟨by rw [HST2.out, hsh]; rfl⟩, HI6⟩
                case measure => first | exact meas_next hjl HW6.out | (simp only [intOf]; exact cs_meas' hjl)
            · have hje : j = f.length := by omega
              have HA := Aside0.mk (show f.all shape = true by have h := HJJ.out; rw [hje, List.take_length] at h; exact h)
              have HYE := Aside0.mk (show pre2 X f j = pre p (k + 1) by rw [hje, pre2_all X f HF40.out, HPS.out])
              have hjd : decide (j < f.length) = false := decide_eq_false hjl
              have hjd2 : decide ((j : Int) < (f.length : Int)) = false := decide_eq_false (fun h => hjl (Int.ofNat_lt.1 h))
              rw [HYE.out]
              clear hje hjl hj
              go_wp2_with (fail)
              go_roundw
              case rel => exact ⟨k + 1, by first | rfl | exact num_next HW5.out, Nat.succ_le_of_lt hlt, rfl, ⟨by rw [HST.out, HA.out]; rfl⟩, HI⟩
              case measure => first | exact meas_next hlt HW5.out | (simp only [intOf]; exact cs_meas' hlt)
        · have hke : k = p.fs.length := by omega
          have E := Aside0.mk (err_none H12.out HL.out HN.out (by have h := HK.out; rw [hke, List.take_length] at h; exact h))
          have HP := Aside0.mk (show pre p k = (putB p).map u8 by rw [hke, pre_all])
          rw [HP.out]
          have hkd : decide (k < p.fs.length) = false := decide_eq_false hlt
          have hkd2 : decide ((k : Int) < (p.fs.length : Int)) = false := decide_eq_false (fun h => hlt (Int.ofNat_lt.1 h))
          clear hke hlt hk
          go_wp2_with (fail)
          go_ret2
          exact ⟨by rw [ES.out, E.out, if_pos rfl, str_u8]; rfl, HB.out⟩
end Go.Proofs.Ytmofaahhnokohaa.Code
