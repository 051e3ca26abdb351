/- Walk: code.check. -/
import Derived.Test.YtmofaahhnokohaaCode1
namespace Go.Proofs.Ytmofaahhnokohaa.Code
set_option linter.unusedSimpArgs false
set_option linter.unusedVariables false
open Go.RowKit Go.Proofs.YtmofaahhnokohaaW.PrintWords Go.Proofs.YtmofaahhnokohaaW.PrintLast Go.Proofs.YtmofaahhnokohaaW.PrintMore PCodeAll Go.Proofs.YtmofaahhnokohaaW.Canon
attribute [local go_sem] max2_mx min2_mn max_two min_two max_three min_three max_four min_four

/-- A program. -/
structure PG where
  fs : List (List S26)
  fu : Int
  de : Int
  fl : Int
def longF (f : List S26) : Bool := decide (40 < f.length)
def numsOk (p : PG) : Bool := decide (0 ≤ p.fu ∧ p.fu ≤ 16 ∧ 0 ≤ p.de ∧ p.de ≤ 5 ∧ 1 ≤ p.fl ∧ p.fl ≤ 500)
def errOf (p : PG) : Int :=
  if 12 < p.fs.length then 2 else if p.fs.any longF = true then 2 else if numsOk p = false then 1 else if p.fs.all (fun f => f.all shape) = true then 0 else 1
def PG.val (p : PG) (A : Option Addr) (c : Nat) : Value := .agg #[.slice A p.fs.length c, .int .i64 p.fu, .int .i64 p.de, .int .i64 p.fl]
def PG.cells (p : PG) (A : Option Addr) (c : Nat) : Array Value := #[.slice A p.fs.length c, .int .i64 p.fu, .int .i64 p.de, .int .i64 p.fl]
def PG.C (p : PG) (w : World) (A : Option Addr) : Prop := Kd.C (Kd.slice 26 k26) w A p.fs.length p.fs
theorem prog_reads {w : World} {b : Nat} {p : PG} {A : Option Addr} {c : Nat} (h : w.heap[b]? = some (.cells (p.cells A c) 33 (0, 0))) :
    w.cell? ⟨b, 0, none⟩ = some (.slice A p.fs.length c) ∧ w.cell? ⟨b, 1, none⟩ = some (.int .i64 p.fu) ∧ w.cell? ⟨b, 2, none⟩ = some (.int .i64 p.de) ∧ w.cell? ⟨b, 3, none⟩ = some (.int .i64 p.fl) :=
  ⟨cell_of_row w b 0 _ 33 (0, 0) h, cell_of_row w b 1 _ 33 (0, 0) h, cell_of_row w b 2 _ 33 (0, 0) h, cell_of_row w b 3 _ 33 (0, 0) h⟩
theorem sl31 : Try.prog.underlying 31 = some (.slice (Try.prog.elem 31)) := by kernel_rfl
theorem sz31 (w : World) : (sizeOf (Try.prog.elem 31)).run Try.prog w = .ok 1 w := by rfl
theorem ix31 (ad : Addr) (len : Nat) (c : Nat) (i : Int) (n : Nat) (W : World) (h0 : 0 ≤ i) (h1 : i < len) (hn : i.toNat = n) :
    (Instr.indexAt 31 (.slice (some ad) len c) (.int .i64 i)).run Try.prog W = .ok (.pointer (some (ad.add n))) W := by
  rw [run_indexAt_slice (h := sl31), if_pos ⟨h0, h1⟩, sz31, ← hn]
  show Result.ok (Value.pointer (some (ad.add (i.toNat * 1)))) W = _
  rw [Nat.mul_one]
theorem sl38 : Try.prog.underlying 38 = some (.slice (Try.prog.elem 38)) := by kernel_rfl
theorem sz38 (w : World) : (sizeOf (Try.prog.elem 38)).run Try.prog w = .ok 4 w := by rfl
theorem ix38 (ad : Addr) (len : Nat) (c : Nat) (i : Int) (n : Nat) (W : World) (h0 : 0 ≤ i) (h1 : i < len) (hn : i.toNat * 4 = n) :
    (Instr.indexAt 38 (.slice (some ad) len c) (.int .i64 i)).run Try.prog W = .ok (.pointer (some (ad.add n))) W := by
  rw [run_indexAt_slice (h := sl38), if_pos ⟨h0, h1⟩, sz38, ← hn]
  rfl
theorem rd_L2_at (xs : List (List S26)) (k : Nat) (h : k < xs.length) : rd_L2 xs (k : Int) = xs[k]'h := by
  simp only [rd_L2, Int.toNat_natCast, List.getD_eq_getElem?_getD, List.getElem?_eq_getElem h]
  rfl
theorem rd_T26_at (xs : List S26) (k : Nat) (h : k < xs.length) : rd_T26 xs (k : Int) = xs[k]'h := by
  simp only [rd_T26, Int.toNat_natCast, List.getD_eq_getElem?_getD, List.getElem?_eq_getElem h]
  rfl
theorem any_step {α : Type} (p : α → Bool) (xs : List α) (k : Nat) (h : k < xs.length) : (xs.take (k + 1)).any p = ((xs.take k).any p || p (xs[k]'h)) := by
  rw [← List.take_append_getElem h, List.any_append]
  simp
theorem all_step {α : Type} (p : α → Bool) (xs : List α) (k : Nat) (h : k < xs.length) : (xs.take (k + 1)).all p = ((xs.take k).all p && p (xs[k]'h)) := by
  rw [← List.take_append_getElem h, List.all_append]
  simp
theorem any_here {α : Type} (p : α → Bool) (xs : List α) (k : Nat) (h : k < xs.length) (hp : p (xs[k]'h) = true) : xs.any p = true := List.any_eq_true.mpr ⟨_, List.getElem_mem h, hp⟩
theorem all_here {α : Type} (p : α → Bool) (xs : List α) (k : Nat) (h : k < xs.length) (hp : p (xs[k]'h) = false) : xs.all p = false := by
  rw [Bool.eq_false_iff]
  intro ha
  have := List.all_eq_true.mp ha _ (List.getElem_mem h)
  rw [hp] at this
  cases this
theorem meas1 {n j : Nat} {W : Int} (h : j < n) (hW : W = j + 1) : n - (intOf (.int .i64 W)).toNat < n - (intOf (.int .i64 (j : Int))).toNat := by simp only [intOf]; omega
theorem wrap64_id (n : Int) (h : -9223372036854775808 ≤ n ∧ n ≤ 9223372036854775807) : wrap64 n = n := by simp only [wrap64]; omega
theorem err_long1 {p : PG} (h : 12 < p.fs.length) : errOf p = 2 := if_pos h
theorem err_long2 {p : PG} (h : ¬ 12 < p.fs.length) (h2 : p.fs.any longF = true) : errOf p = 2 := by rw [errOf, if_neg h, if_pos h2]
theorem err_nums {p : PG} (h : ¬ 12 < p.fs.length) (h2 : p.fs.any longF = false) (h3 : numsOk p = false) : errOf p = 1 := by rw [errOf, if_neg h, if_neg (by rw [h2]; exact Bool.false_ne_true), if_pos h3]
theorem err_shape {p : PG} (h : ¬ 12 < p.fs.length) (h2 : p.fs.any longF = false) (h3 : numsOk p = true) (h4 : p.fs.all (fun f => f.all shape) = false) : errOf p = 1 := by
  rw [errOf, if_neg h, if_neg (by rw [h2]; exact Bool.false_ne_true), if_neg (by rw [h3]; decide), if_neg (by rw [h4]; exact Bool.false_ne_true)]
theorem err_none {p : PG} (h : ¬ 12 < p.fs.length) (h2 : p.fs.any longF = false) (h3 : numsOk p = true) (h4 : p.fs.all (fun f => f.all shape) = true) : errOf p = 0 := by
  rw [errOf, if_neg h, if_neg (by rw [h2]; exact Bool.false_ne_true), if_neg (by rw [h3]; decide), if_pos h4]


set_option maxHeartbeats 1000000 in
theorem check_calls (p : PG) (A : Option Addr) (c : Nat) (w : World) (hC : p.C w A) :
    Calls Try.prog 32 #[p.val A c] w fun e w' => e = .returned (.int .i64 (errOf p)) ∧ Below w.heap.size w w' := by
  have S0 := Aside0.mk (show (w.alloc (.cells #[.slice A p.fs.length c, .int .i64 p.fu, .int .i64 p.de, .int .i64 p.fl] 33)).heap[w.heap.size]? = some (.cells (p.cells A c) 33 (0, 0)) from heap_alloc_new w _)
  have HB := Aside0.mk (below_alloc (Below.refl w.heap.size w) (.cells #[.slice A p.fs.length c, .int .i64 p.fu, .int .i64 p.de, .int .i64 p.fl] 33))
  have HC0 := Aside0.mk hC
  clear hC
  show Calls Try.prog 32 #[.agg #[.slice A p.fs.length c, .int .i64 p.fu, .int .i64 p.de, .int .i64 p.fl]] w _
  by_cases h12 : 12 < p.fs.length
  · have E := Aside0.mk (err_long1 h12)
    obtain ⟨r0, r1, r2, r3⟩ := prog_reads S0.out
    clear S0 HC0
    go_enter Try.func32, Try.ntmps32
    go_wp2_with (fail)
    go_ret
    exact ⟨by rw [E.out]; rfl, HB.out⟩
  have H12 := Aside0.mk h12
  obtain ⟨r0, r1, r2, r3⟩ := prog_reads S0.out
  go_enter Try.func32, Try.ntmps32
  go_wp2_with (fail)
  clear r0 r1 r2 r3 h12
  revert S0 HB
  generalize w.alloc (.cells #[.slice A p.fs.length c, .int .i64 p.fu, .int .i64 p.de, .int .i64 p.fl] 33) = w1
  intro S0 HB
  go_loopw [16] (fun u w' => ∃ k : Nat, u = .int .i64 k ∧ k ≤ p.fs.length ∧ Aside0 ((p.fs.take k).any longF = false) ∧ w' = w1) (fun u _ => p.fs.length - (intOf u).toNat)
  case atStart => exact ⟨0, rfl, by omega, ⟨rfl⟩, rfl⟩
  case round =>
    obtain ⟨k, rfl, hk, HK, rfl⟩ := hrel
    by_cases hlt : k < p.fs.length
    · obtain ⟨ad, A0, c0, rfl, a0, hA0, _⟩ := at_L2 (Kd.C_below HC0.out HB.out) k (by omega) (by omega)
      rw [Int.toNat_natCast, rd_L2_at p.fs k hlt] at a0
      have hix := fun (W : World) => ix31 ad p.fs.length c (k : Int) k W (by omega) (by omega) (Int.toNat_natCast k)
      obtain ⟨f, hf⟩ : ∃ f, p.fs[k]'hlt = f := ⟨_, rfl⟩
      have hst := any_step longF p.fs k hlt
      rw [HK.out, hf] at hst
      rw [hf] at a0
      have HST := Aside0.mk hst
      clear hst hA0
      by_cases h40 : 40 < f.length
      · have E := Aside0.mk (err_long2 H12.out (any_here longF p.fs k hlt (by rw [hf]; exact decide_eq_true h40)))
        go_wp2_with (fail)
        go_ret
        exact ⟨by rw [E.out]; rfl, HB.out⟩
      · have HST2 := Aside0.mk (show (p.fs.take (k + 1)).any longF = false by rw [HST.out]; exact decide_eq_false h40)
        have HW5 := Aside0.mk (show wrap64 ((k : Int) + 1) = (k : Int) + 1 from wrap64_id _ (by have := H12.out; omega))
        clear hf HST
        have hw5 := HW5.out
        go_wp2_with (fail)
        exact ⟨⟨k + 1, by first | rfl | go_num, by omega, HST2, trivial⟩, by first | exact meas1 hlt HW5.out | (simp only [intOf]; omega)⟩
    · obtain rfl : k = p.fs.length := by omega
      have HL := Aside0.mk (show p.fs.any longF = false by have h := HK.out; rw [List.take_length] at h; exact h)
      clear HK hk
      obtain ⟨r0, r1, r2, r3⟩ := prog_reads S0.out
      by_cases n1 : 0 ≤ p.fu
      case neg => 
        have d1 : decide (p.fu < 0) = true := decide_eq_true (by omega)
        have E := Aside0.mk (err_nums H12.out HL.out (decide_eq_false (by omega)))
        clear H12 HL HC0
        go_wp2_with (fail)
        go_ret
        exact ⟨by rw [E.out]; rfl, HB.out⟩
      have d1 : decide (p.fu < 0) = false := decide_eq_false (by omega)
      by_cases n2 : p.fu ≤ 16
      case neg =>
        have d2 : decide (16 < p.fu) = true := decide_eq_true (by omega)
        have E := Aside0.mk (err_nums H12.out HL.out (decide_eq_false (by omega)))
        clear H12 HL HC0
        go_wp2_with (fail)
        go_ret
        exact ⟨by rw [E.out]; rfl, HB.out⟩
      have d2 : decide (16 < p.fu) = false := decide_eq_false (by omega)
      by_cases n3 : 0 ≤ p.de
      case neg =>
        have d3 : decide (p.de < 0) = true := decide_eq_true (by omega)
        have E := Aside0.mk (err_nums H12.out HL.out (decide_eq_false (by omega)))
        clear H12 HL HC0
        go_wp2_with (fail)
        go_ret
        exact ⟨by rw [E.out]; rfl, HB.out⟩
      have d3 : decide (p.de < 0) = false := decide_eq_false (by omega)
      by_cases n4 : p.de ≤ 5
      case neg =>
        have d4 : decide (5 < p.de) = true := decide_eq_true (by omega)
        have E := Aside0.mk (err_nums H12.out HL.out (decide_eq_false (by omega)))
        clear H12 HL HC0
        go_wp2_with (fail)
        go_ret
        exact ⟨by rw [E.out]; rfl, HB.out⟩
      have d4 : decide (5 < p.de) = false := decide_eq_false (by omega)
      by_cases n5 : 1 ≤ p.fl
      case neg =>
        have d5 : decide (p.fl < 1) = true := decide_eq_true (by omega)
        have E := Aside0.mk (err_nums H12.out HL.out (decide_eq_false (by omega)))
        clear H12 HL HC0
        go_wp2_with (fail)
        go_ret
        exact ⟨by rw [E.out]; rfl, HB.out⟩
      have d5 : decide (p.fl < 1) = false := decide_eq_false (by omega)
      by_cases n6 : p.fl ≤ 500
      case neg =>
        have d6 : decide (500 < p.fl) = true := decide_eq_true (by omega)
        have E := Aside0.mk (err_nums H12.out HL.out (decide_eq_false (by omega)))
        clear H12 HL HC0
        go_wp2_with (fail)
        go_ret
        exact ⟨by rw [E.out]; rfl, HB.out⟩
      have d6 : decide (500 < p.fl) = false := decide_eq_false (by omega)
      have HN := Aside0.mk (show numsOk p = true from decide_eq_true ⟨n1, n2, n3, n4, n5, n6⟩)
      clear n1 n2 n3 n4 n5 n6
      go_wp2_with (fail)
      clear d1 d2 d3 d4 d5 d6 r0 r1 r2 r3
      obtain ⟨wq, rfl⟩ : ∃ wq, wq = wr := ⟨_, rfl⟩
      go_loopw [55] (fun u w' => ∃ k : Nat, u = .int .i64 k ∧ k ≤ p.fs.length ∧ Aside0 ((p.fs.take k).all (fun f => f.all shape) = true) ∧ Aside0 (Below wq.heap.size wq w')) (fun u _ => p.fs.length - (intOf u).toNat)
      case atStart => exact ⟨0, rfl, by omega, ⟨rfl⟩, ⟨Below.refl _ _⟩⟩
      case round =>
        obtain ⟨k, rfl, hk, HK, HJ⟩ := hrel
        have HB2 := Aside0.mk (below_step HB.out HJ.out)
        by_cases hlt : k < p.fs.length
        · obtain ⟨ad, A0, c0, rfl, a0, hc0, hA0⟩ := at_L2 (Kd.C_below HC0.out HB2.out) k (by omega) (by omega)
          rw [Int.toNat_natCast, rd_L2_at p.fs k hlt] at a0
          rw [rd_L2_at p.fs k hlt] at hA0 hc0
          have hix := fun (W : World) => ix31 ad p.fs.length c (k : Int) k W (by omega) (by omega) (Int.toNat_natCast k)
          obtain ⟨f, hf⟩ : ∃ f, p.fs[k]'hlt = f := ⟨_, rfl⟩
          have HF := Aside0.mk hf
          have hst := all_step (fun f => f.all shape) p.fs k hlt
          rw [HK.out, hf] at hst
          rw [hf] at a0 hA0 hc0
          have HST := Aside0.mk hst
          have FC := Aside0.mk hA0
          have HW5 := Aside0.mk (show wrap64 ((k : Int) + 1) = (k : Int) + 1 from wrap64_id _ (by have := H12.out; omega))
          have hf40 : f.length ≤ 40 := by
            have h := HL.out
            have := List.any_eq_false.mp h f (by rw [← hf]; exact List.getElem_mem hlt)
            simp only [longF, decide_eq_true_eq] at this
            omega
          have HF40 := Aside0.mk hf40
          clear hst hA0 hf hc0 hf40
          go_wp2_with (fail)
          clear a0 hix
          obtain ⟨wp, rfl⟩ : ∃ wp, wp = wr := ⟨_, rfl⟩
          go_loopw [61] (fun u w' => ∃ j : Nat, u = .int .i64 j ∧ j ≤ f.length ∧ Aside0 ((f.take j).all shape = true) ∧ Aside0 (Below wp.heap.size wp w')) (fun u _ => f.length - (intOf u).toNat)
          case atStart => exact ⟨0, rfl, by omega, ⟨rfl⟩, ⟨Below.refl _ _⟩⟩
          case round =>
            obtain ⟨j, rfl, hj, HJJ, HI⟩ := hrel
            by_cases hjl : j < f.length
            · obtain ⟨af, rfl, b0, b1, b2, b3⟩ := at_T26 (Kd.C_below FC.out HI.out) j (by omega) (by omega)
              rw [rd_T26_at f j hjl] at b0 b1 b2 b3
              obtain ⟨nn, hnn⟩ : ∃ nn : Nat, ((j : Int)).toNat * 4 = nn := ⟨_, rfl⟩
              rw [hnn] at b0 b1 b2 b3
              obtain ⟨y, hy⟩ : ∃ y, f[j]'hjl = y := ⟨_, rfl⟩
              have hst := all_step shape f j hjl
              rw [HJJ.out, hy] at hst
              rw [hy] at b0 b1 b2 b3
              have HST2 := Aside0.mk hst
              have HY := Aside0.mk hy
              have hix := fun (W : World) => ix38 af f.length c0 (j : Int) nn W (by omega) (by omega) hnn
              have HW6 := Aside0.mk (show wrap64 ((j : Int) + 1) = (j : Int) + 1 from wrap64_id _ (by have := HF40.out; omega))
              clear hst hy hnn
              go_wp2_with (fail)
              refine (Shape_calls y _).mono ?_
              rintro e w5 ⟨rfl, hb5⟩
              have HI2 := Aside0.mk (below_step (below_alloc HI.out (.cells #[.int .i64 y.f0, .int .i64 y.f1, .int .i64 y.f2, .int .i64 y.f3] 26)) hb5)
              clear hb5 b0 b1 b2 b3 hix
              rcases hsh : shape y
              · have E := Aside0.mk (err_shape H12.out HL.out HN.out (all_here _ p.fs k hlt (by rw [HF.out]; exact all_here shape f j hjl (by rw [HY.out]; exact hsh))))
                have HB3 := Aside0.mk (below_step HB2.out HI2.out)
                clear HB HB2
                have HB := HB3
                go_wp2_with (fail)
                go_ret
                exact ⟨by rw [E.out]; rfl, HB.out⟩
              · have hw6 := HW6.out
                go_wp2_with (fail)
                exact ⟨⟨j + 1, by first | rfl | go_num, by omega, ⟨by rw [HST2.out, hsh]; rfl⟩, HI2⟩, by first | exact meas1 hjl HW6.out | (simp only [intOf]; omega)⟩
            · obtain rfl : j = f.length := by omega
              have HA := Aside0.mk (show f.all shape = true by have h := HJJ.out; rw [List.take_length] at h; exact h)
              have hw5 := HW5.out
              have HJ2 := Aside0.mk (below_step HJ.out HI.out)
              clear HJJ hj
              go_wp2_with (fail)
              exact ⟨⟨k + 1, by first | rfl | go_num, by omega, ⟨by rw [HST.out, HA.out]; rfl⟩, HJ2⟩, by first | exact meas1 hlt HW5.out | (simp only [intOf]; omega)⟩
        · obtain rfl : k = p.fs.length := by omega
          have E := Aside0.mk (err_none H12.out HL.out HN.out (by have h := HK.out; rw [List.take_length] at h; exact h))
          clear HB
          have HB := HB2
          go_wp2_with (fail)
          go_ret
          exact ⟨by rw [E.out]; rfl, HB.out⟩
end Go.Proofs.Ytmofaahhnokohaa.Code
