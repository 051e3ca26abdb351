/- Walks: valid.ends, valid.looks and its closures. -/
import Derived.Test.YtmofaahhnokohaaCode20
namespace Go.Proofs.Ytmofaahhnokohaa.Code
set_option linter.unusedSimpArgs false
set_option linter.unusedVariables false
open Go.RowKit Go.Proofs.YtmofaahhnokohaaW.PrintWords Go.Proofs.YtmofaahhnokohaaW.PrintLast Go.Proofs.YtmofaahhnokohaaW.PrintMore PCodeAll Go.Proofs.YtmofaahhnokohaaW.CanonE
attribute [local go_sem] max2_mx min2_mn max_two min_two max_three min_three max_four min_four

def endsB (f : List S26) : Bool := if h : 0 < f.length then ((f[f.length - 1]'(by omega)).f0 == 7 || (f[f.length - 1]'(by omega)).f0 == 15) else false
theorem ends_calls (f : List S26) (A : Option Addr) (c : Nat) (w : World) (hC : Kd.C k26 w A f.length f) :
    Calls Try.prog 40 #[.slice A f.length c] w fun e w' => e = .returned (.bool (endsB f)) ∧ w = w' := by
  have HL := Aside0.mk hC.2.1
  by_cases h0 : 0 < f.length
  · obtain ⟨n, hn⟩ : ∃ n, f.length = n + 1 := ⟨f.length - 1, by omega⟩
    have hlast : n < f.length := by omega
    obtain ⟨af, hAf, b0, _, _, _⟩ := at_T26 hC n (by omega) (by omega)
    subst hAf
    obtain ⟨nn, hnn⟩ : ∃ nn : Nat, ((n : Int)).toNat * 4 = nn := ⟨_, rfl⟩
    rw [hnn, rd_T26_at f n hlast] at b0
    obtain ⟨x, hx⟩ : ∃ x, f[n]'hlast = x := ⟨_, rfl⟩
    rw [hx] at b0
    have HE := Aside0.mk (show endsB f = (x.f0 == 7 || x.f0 == 15) by
      rw [endsB, dif_pos h0]
      have e : f[f.length - 1]'(by omega) = x := by
        rw [← hx]
        congr 1
        omega
      rw [e])
    have hix := fun (W : World) => ix38 af f.length c (n : Int) nn W (by omega) (by omega) hnn
    have hn1 : n ≤ 9223372036854775806 := by have := HL.out; omega
    rw [hn] at hix
    rw [hn]
    clear hx hnn h0 hn hC hlast HL
    rcases h7 : (x.f0 == 7)
    · rcases h15 : (x.f0 == 15)
      · have HE2 := Aside0.mk (show endsB f = false by rw [HE.out, h7, h15]; rfl)
        go_enter Try.func40, Try.ntmps40
        go_wp2_with (fail)
        go_ret
        exact ⟨by rw [HE2.out]; rfl, rfl⟩
      · have HE2 := Aside0.mk (show endsB f = true by rw [HE.out, h7, h15]; rfl)
        go_enter Try.func40, Try.ntmps40
        go_wp2_with (fail)
        go_ret
        exact ⟨by rw [HE2.out]; rfl, rfl⟩
    · have HE2 := Aside0.mk (show endsB f = true by rw [HE.out, h7]; rfl)
      go_enter Try.func40, Try.ntmps40
      go_wp2_with (fail)
      go_ret
      exact ⟨by rw [HE2.out]; rfl, rfl⟩
  · have hn : f.length = 0 := by omega
    have HE2 := Aside0.mk (show endsB f = false by rw [endsB, dif_neg h0])
    rw [hn]
    clear h0 hn hC HL
    go_enter Try.func40, Try.ntmps40
    go_wp2_with (fail)
    go_ret
    exact ⟨by rw [HE2.out]; rfl, rfl⟩
theorem inside_calls (at_ : Int) (n c : Nat) (A : Option Addr) (w : World) :
    Calls Try.prog 48 #[.slice A n c, .int .i64 at_] w fun e w' => e = .returned (.bool (decide (at_ < (n : Int)))) ∧ w = w' := by
  go_enter Try.func48, Try.ntmps48
  go_wp2_with (fail)
  go_ret
  exact ⟨rfl, rfl⟩
/-- The five looks. -/
def lookB (k : Nat) (nf : Nat) (fu : Int) (n : Nat) (x : S26) : Bool :=
  match k with
  | 0 => x.f0 != 7 || decide (x.f1 < (n : Int))
  | 1 => x.f0 != 8 || decide (x.f2 < (n : Int))
  | 2 => x.f0 != 9 || decide (x.f2 < (nf : Int))
  | 3 => x.f0 != 11 || decide (x.f1 < fu)
  | _ => x.f0 != 12 || decide (x.f2 < fu)

theorem look49_calls (A B : Option Addr) (nf c n d : Nat) (fu de fl : Int) (x : S26) (b : Nat) (w : World) (hb : w.cell? ⟨b, 0, none⟩ = some (.func (.func 48) #[] #[])) :
    Calls Try.prog 49 #[.agg #[.slice A nf c, .int .i64 fu, .int .i64 de, .int .i64 fl], .slice B n d, .agg #[.int .i64 x.f0, .int .i64 x.f1, .int .i64 x.f2, .int .i64 x.f3], .pointer (some ⟨b, 0, none⟩)] w fun e w' => e = .returned (.bool (lookB 0 nf fu n x)) ∧ Below w.heap.size w w' := by
  have HB := Aside0.mk (below_two (Below.refl w.heap.size w) (Nat.le_refl _) (.cells #[.slice A nf c, .int .i64 fu, .int .i64 de, .int .i64 fl] 33) (.cells #[.int .i64 x.f0, .int .i64 x.f1, .int .i64 x.f2, .int .i64 x.f3] 26))
  have S0 := blk_alloc (heap_alloc_new w (.cells #[.slice A nf c, .int .i64 fu, .int .i64 de, .int .i64 fl] 33)) (.cells #[.int .i64 x.f0, .int .i64 x.f1, .int .i64 x.f2, .int .i64 x.f3] 26)
  have T0 := heap_alloc_new (w.alloc (.cells #[.slice A nf c, .int .i64 fu, .int .i64 de, .int .i64 fl] 33)) (.cells #[.int .i64 x.f0, .int .i64 x.f1, .int .i64 x.f2, .int .i64 x.f3] 26)
  rw [World.size_alloc] at T0
  obtain ⟨r0, r1, r2, r3⟩ := ps_reads S0
  obtain ⟨s0, s1, s2, s3⟩ := ins_reads T0
  clear S0 T0
  have hc := cell_below (cell_below hb (below_alloc (Below.refl _ _) (.cells #[.slice A nf c, .int .i64 fu, .int .i64 de, .int .i64 fl] 33))) (below_alloc (Below.refl _ _) (.cells #[.int .i64 x.f0, .int .i64 x.f1, .int .i64 x.f2, .int .i64 x.f3] 26))
  clear hb
  rcases h7 : (x.f0 != 7)
  · have HE := Aside0.mk (show lookB 0 nf fu n x = decide (x.f1 < (n : Int)) by rw [lookB, h7]; rfl)
    go_enter Try.func49, Try.ntmps49
    go_wp2_with (fail)
    refine (inside_calls x.f1 n d B _).mono ?_
    rintro e w' ⟨rfl, rfl⟩
    go_wp2_with (fail)
    go_ret
    exact ⟨by rw [HE.out]; rfl, HB.out⟩
  · have HE := Aside0.mk (show lookB 0 nf fu n x = true by rw [lookB, h7]; rfl)
    go_enter Try.func49, Try.ntmps49
    go_wp2_with (fail)
    go_ret
    exact ⟨by rw [HE.out]; rfl, HB.out⟩
theorem look50_calls (A B : Option Addr) (nf c n d : Nat) (fu de fl : Int) (x : S26) (b : Nat) (w : World) (hb : w.cell? ⟨b, 0, none⟩ = some (.func (.func 48) #[] #[])) :
    Calls Try.prog 50 #[.agg #[.slice A nf c, .int .i64 fu, .int .i64 de, .int .i64 fl], .slice B n d, .agg #[.int .i64 x.f0, .int .i64 x.f1, .int .i64 x.f2, .int .i64 x.f3], .pointer (some ⟨b, 0, none⟩)] w fun e w' => e = .returned (.bool (lookB 1 nf fu n x)) ∧ Below w.heap.size w w' := by
  have HB := Aside0.mk (below_two (Below.refl w.heap.size w) (Nat.le_refl _) (.cells #[.slice A nf c, .int .i64 fu, .int .i64 de, .int .i64 fl] 33) (.cells #[.int .i64 x.f0, .int .i64 x.f1, .int .i64 x.f2, .int .i64 x.f3] 26))
  have S0 := blk_alloc (heap_alloc_new w (.cells #[.slice A nf c, .int .i64 fu, .int .i64 de, .int .i64 fl] 33)) (.cells #[.int .i64 x.f0, .int .i64 x.f1, .int .i64 x.f2, .int .i64 x.f3] 26)
  have T0 := heap_alloc_new (w.alloc (.cells #[.slice A nf c, .int .i64 fu, .int .i64 de, .int .i64 fl] 33)) (.cells #[.int .i64 x.f0, .int .i64 x.f1, .int .i64 x.f2, .int .i64 x.f3] 26)
  rw [World.size_alloc] at T0
  obtain ⟨r0, r1, r2, r3⟩ := ps_reads S0
  obtain ⟨s0, s1, s2, s3⟩ := ins_reads T0
  clear S0 T0
  have hc := cell_below (cell_below hb (below_alloc (Below.refl _ _) (.cells #[.slice A nf c, .int .i64 fu, .int .i64 de, .int .i64 fl] 33))) (below_alloc (Below.refl _ _) (.cells #[.int .i64 x.f0, .int .i64 x.f1, .int .i64 x.f2, .int .i64 x.f3] 26))
  clear hb
  rcases h7 : (x.f0 != 8)
  · have HE := Aside0.mk (show lookB 1 nf fu n x = decide (x.f2 < (n : Int)) by rw [lookB, h7]; rfl)
    go_enter Try.func50, Try.ntmps50
    go_wp2_with (fail)
    refine (inside_calls x.f2 n d B _).mono ?_
    rintro e w' ⟨rfl, rfl⟩
    go_wp2_with (fail)
    go_ret
    exact ⟨by rw [HE.out]; rfl, HB.out⟩
  · have HE := Aside0.mk (show lookB 1 nf fu n x = true by rw [lookB, h7]; rfl)
    go_enter Try.func50, Try.ntmps50
    go_wp2_with (fail)
    go_ret
    exact ⟨by rw [HE.out]; rfl, HB.out⟩

theorem look51_calls (A B : Option Addr) (nf c n d : Nat) (fu de fl : Int) (x : S26) (w : World) :
    Calls Try.prog 51 #[.agg #[.slice A nf c, .int .i64 fu, .int .i64 de, .int .i64 fl], .slice B n d, .agg #[.int .i64 x.f0, .int .i64 x.f1, .int .i64 x.f2, .int .i64 x.f3]] w fun e w' => e = .returned (.bool (lookB 2 nf fu n x)) ∧ Below w.heap.size w w' := by
  have HB := Aside0.mk (below_two (Below.refl w.heap.size w) (Nat.le_refl _) (.cells #[.slice A nf c, .int .i64 fu, .int .i64 de, .int .i64 fl] 33) (.cells #[.int .i64 x.f0, .int .i64 x.f1, .int .i64 x.f2, .int .i64 x.f3] 26))
  have S0 := blk_alloc (heap_alloc_new w (.cells #[.slice A nf c, .int .i64 fu, .int .i64 de, .int .i64 fl] 33)) (.cells #[.int .i64 x.f0, .int .i64 x.f1, .int .i64 x.f2, .int .i64 x.f3] 26)
  have T0 := heap_alloc_new (w.alloc (.cells #[.slice A nf c, .int .i64 fu, .int .i64 de, .int .i64 fl] 33)) (.cells #[.int .i64 x.f0, .int .i64 x.f1, .int .i64 x.f2, .int .i64 x.f3] 26)
  rw [World.size_alloc] at T0
  obtain ⟨r0, r1, r2, r3⟩ := ps_reads S0
  obtain ⟨s0, s1, s2, s3⟩ := ins_reads T0
  clear S0 T0
  rcases h7 : (x.f0 != 9)
  · have HE := Aside0.mk (show lookB 2 nf fu n x = decide (x.f2 < (nf : Int)) by show (x.f0 != 9 || decide (x.f2 < (nf : Int))) = _; rw [h7]; rfl)
    go_enter Try.func51, Try.ntmps51
    go_wp2_with (fail)
    go_ret
    exact ⟨by rw [HE.out]; rfl, HB.out⟩
  · have HE := Aside0.mk (show lookB 2 nf fu n x = true by show (x.f0 != 9 || decide (x.f2 < (nf : Int))) = _; rw [h7]; rfl)
    go_enter Try.func51, Try.ntmps51
    go_wp2_with (fail)
    go_ret
    exact ⟨by rw [HE.out]; rfl, HB.out⟩
theorem look52_calls (A B : Option Addr) (nf c n d : Nat) (fu de fl : Int) (x : S26) (w : World) :
    Calls Try.prog 52 #[.agg #[.slice A nf c, .int .i64 fu, .int .i64 de, .int .i64 fl], .slice B n d, .agg #[.int .i64 x.f0, .int .i64 x.f1, .int .i64 x.f2, .int .i64 x.f3]] w fun e w' => e = .returned (.bool (lookB 3 nf fu n x)) ∧ Below w.heap.size w w' := by
  have HB := Aside0.mk (below_two (Below.refl w.heap.size w) (Nat.le_refl _) (.cells #[.slice A nf c, .int .i64 fu, .int .i64 de, .int .i64 fl] 33) (.cells #[.int .i64 x.f0, .int .i64 x.f1, .int .i64 x.f2, .int .i64 x.f3] 26))
  have S0 := blk_alloc (heap_alloc_new w (.cells #[.slice A nf c, .int .i64 fu, .int .i64 de, .int .i64 fl] 33)) (.cells #[.int .i64 x.f0, .int .i64 x.f1, .int .i64 x.f2, .int .i64 x.f3] 26)
  have T0 := heap_alloc_new (w.alloc (.cells #[.slice A nf c, .int .i64 fu, .int .i64 de, .int .i64 fl] 33)) (.cells #[.int .i64 x.f0, .int .i64 x.f1, .int .i64 x.f2, .int .i64 x.f3] 26)
  rw [World.size_alloc] at T0
  obtain ⟨r0, r1, r2, r3⟩ := ps_reads S0
  obtain ⟨s0, s1, s2, s3⟩ := ins_reads T0
  clear S0 T0
  rcases h7 : (x.f0 != 11)
  · have HE := Aside0.mk (show lookB 3 nf fu n x = decide (x.f1 < fu) by show (x.f0 != 11 || decide (x.f1 < fu)) = _; rw [h7]; rfl)
    go_enter Try.func52, Try.ntmps52
    go_wp2_with (fail)
    go_ret
    exact ⟨by rw [HE.out]; rfl, HB.out⟩
  · have HE := Aside0.mk (show lookB 3 nf fu n x = true by show (x.f0 != 11 || decide (x.f1 < fu)) = _; rw [h7]; rfl)
    go_enter Try.func52, Try.ntmps52
    go_wp2_with (fail)
    go_ret
    exact ⟨by rw [HE.out]; rfl, HB.out⟩
theorem look53_calls (A B : Option Addr) (nf c n d : Nat) (fu de fl : Int) (x : S26) (w : World) :
    Calls Try.prog 53 #[.agg #[.slice A nf c, .int .i64 fu, .int .i64 de, .int .i64 fl], .slice B n d, .agg #[.int .i64 x.f0, .int .i64 x.f1, .int .i64 x.f2, .int .i64 x.f3]] w fun e w' => e = .returned (.bool (lookB 4 nf fu n x)) ∧ Below w.heap.size w w' := by
  have HB := Aside0.mk (below_two (Below.refl w.heap.size w) (Nat.le_refl _) (.cells #[.slice A nf c, .int .i64 fu, .int .i64 de, .int .i64 fl] 33) (.cells #[.int .i64 x.f0, .int .i64 x.f1, .int .i64 x.f2, .int .i64 x.f3] 26))
  have S0 := blk_alloc (heap_alloc_new w (.cells #[.slice A nf c, .int .i64 fu, .int .i64 de, .int .i64 fl] 33)) (.cells #[.int .i64 x.f0, .int .i64 x.f1, .int .i64 x.f2, .int .i64 x.f3] 26)
  have T0 := heap_alloc_new (w.alloc (.cells #[.slice A nf c, .int .i64 fu, .int .i64 de, .int .i64 fl] 33)) (.cells #[.int .i64 x.f0, .int .i64 x.f1, .int .i64 x.f2, .int .i64 x.f3] 26)
  rw [World.size_alloc] at T0
  obtain ⟨r0, r1, r2, r3⟩ := ps_reads S0
  obtain ⟨s0, s1, s2, s3⟩ := ins_reads T0
  clear S0 T0
  rcases h7 : (x.f0 != 12)
  · have HE := Aside0.mk (show lookB 4 nf fu n x = decide (x.f2 < fu) by show (x.f0 != 12 || decide (x.f2 < fu)) = _; rw [h7]; rfl)
    go_enter Try.func53, Try.ntmps53
    go_wp2_with (fail)
    go_ret
    exact ⟨by rw [HE.out]; rfl, HB.out⟩
  · have HE := Aside0.mk (show lookB 4 nf fu n x = true by show (x.f0 != 12 || decide (x.f2 < fu)) = _; rw [h7]; rfl)
    go_enter Try.func53, Try.ntmps53
    go_wp2_with (fail)
    go_ret
    exact ⟨by rw [HE.out]; rfl, HB.out⟩
/-- The value of each look. -/
def lookV (k : Nat) (b : Nat) : Value :=
  match k with
  | 0 => .func (.func 49) #[] #[.pointer (some ⟨b, 0, none⟩)]
  | 1 => .func (.func 50) #[] #[.pointer (some ⟨b, 0, none⟩)]
  | 2 => .func (.func 51) #[] #[]
  | 3 => .func (.func 52) #[] #[]
  | _ => .func (.func 53) #[] #[]

theorem clo43_calls (k : Nat) (hk : k < 5) (A B : Option Addr) (nf c n d : Nat) (fu de fl : Int) (x : S26) (b b8 b1 b6 : Nat) (w : World) (hb : w.cell? ⟨b, 0, none⟩ = some (.func (.func 48) #[] #[]))
    (h8 : w.cell? ⟨b8, 0, none⟩ = some (lookV k b)) (h1 : w.heap[b1]? = some (.cells #[.slice A nf c, .int .i64 fu, .int .i64 de, .int .i64 fl] 33 (0, 0))) (h6 : w.cell? ⟨b6, 0, none⟩ = some (.slice B n d)) :
    Calls Try.prog 43 #[.agg #[.int .i64 x.f0, .int .i64 x.f1, .int .i64 x.f2, .int .i64 x.f3], .pointer (some ⟨b8, 0, none⟩), .pointer (some ⟨b1, 0, none⟩), .pointer (some ⟨b6, 0, none⟩)] w fun e w' => e = .returned (.bool (!lookB k nf fu n x)) ∧ Below w.heap.size w w' := by
  have hal := below_alloc (Below.refl w.heap.size w) (.cells #[.int .i64 x.f0, .int .i64 x.f1, .int .i64 x.f2, .int .i64 x.f3] 26)
  have HB := Aside0.mk hal
  obtain ⟨s0, s1, s2, s3⟩ := ins_reads (heap_alloc_new w (.cells #[.int .i64 x.f0, .int .i64 x.f1, .int .i64 x.f2, .int .i64 x.f3] 26))
  obtain ⟨r0, r1, r2, r3⟩ := ps_reads (blk_below h1 hal)
  have hc8 := cell_below h8 hal
  have hc6 := cell_below h6 hal
  have hcb := cell_below hb hal
  have HCB := Aside0.mk hcb
  clear h8 h6 hb h1 hal
  have h5 : k = 0 ∨ k = 1 ∨ k = 2 ∨ k = 3 ∨ k = 4 := by omega
  clear hk
  rcases h5 with rfl | rfl | rfl | rfl | rfl
  · simp only [lookV] at hc8
    go_enter Try.func43, Try.ntmps43
    go_wp2_with (fail)
    refine (look49_calls A B nf c n d fu de fl x b _ HCB.out).mono ?_
    rintro e w1 ⟨rfl, hb1⟩
    have HB1 := Aside0.mk (below_step HB.out hb1)
    clear hb1 r0 r1 r2 r3 s0 s1 s2 s3 hc8 hc6 hcb
    go_wp2_with (fail)
    go_ret
    exact ⟨rfl, HB1.out⟩
  · simp only [lookV] at hc8
    go_enter Try.func43, Try.ntmps43
    go_wp2_with (fail)
    refine (look50_calls A B nf c n d fu de fl x b _ HCB.out).mono ?_
    rintro e w1 ⟨rfl, hb1⟩
    have HB1 := Aside0.mk (below_step HB.out hb1)
    clear hb1 r0 r1 r2 r3 s0 s1 s2 s3 hc8 hc6 hcb
    go_wp2_with (fail)
    go_ret
    exact ⟨rfl, HB1.out⟩
  · simp only [lookV] at hc8
    go_enter Try.func43, Try.ntmps43
    go_wp2_with (fail)
    refine (look51_calls A B nf c n d fu de fl x _).mono ?_
    rintro e w1 ⟨rfl, hb1⟩
    have HB1 := Aside0.mk (below_step HB.out hb1)
    clear hb1 r0 r1 r2 r3 s0 s1 s2 s3 hc8 hc6 hcb
    go_wp2_with (fail)
    go_ret
    exact ⟨rfl, HB1.out⟩
  · simp only [lookV] at hc8
    go_enter Try.func43, Try.ntmps43
    go_wp2_with (fail)
    refine (look52_calls A B nf c n d fu de fl x _).mono ?_
    rintro e w1 ⟨rfl, hb1⟩
    have HB1 := Aside0.mk (below_step HB.out hb1)
    clear hb1 r0 r1 r2 r3 s0 s1 s2 s3 hc8 hc6 hcb
    go_wp2_with (fail)
    go_ret
    exact ⟨rfl, HB1.out⟩
  · simp only [lookV] at hc8
    go_enter Try.func43, Try.ntmps43
    go_wp2_with (fail)
    refine (look53_calls A B nf c n d fu de fl x _).mono ?_
    rintro e w1 ⟨rfl, hb1⟩
    have HB1 := Aside0.mk (below_step HB.out hb1)
    clear hb1 r0 r1 r2 r3 s0 s1 s2 s3 hc8 hc6 hcb
    go_wp2_with (fail)
    go_ret
    exact ⟨rfl, HB1.out⟩
theorem looks_calls (w : World) :
    Calls Try.prog 41 #[] w fun e w' => ∃ b g, e = .returned (.slice (some ⟨g, 0, none⟩) 5 5) ∧ w'.cell? ⟨b, 0, none⟩ = some (.func (.func 48) #[] #[]) ∧ (∀ k, k < 5 → w'.cell? ⟨g, k, none⟩ = some (lookV k b)) ∧ Below w.heap.size w w' := by
  have S0 := heap_alloc_new w (.cells #[.func (.func 48) #[] #[]] 83)
  go_enter Try.func41, Try.ntmps41
  go_wp2_with (fail)
  go_ret
  refine ⟨w.heap.size, w.heap.size + 1, rfl, cell_of_row _ _ 0 _ 83 (0, 0) (blk_alloc S0 _), fun k hk => ?_, below_alloc (below_alloc (Below.refl _ _) _) _⟩
  have T0 := heap_alloc_new (w.alloc (.cells #[.func (.func 48) #[] #[]] 83)) (.cells #[.func (.func 49) #[] #[.pointer (some ⟨w.heap.size, 0, none⟩)], .func (.func 50) #[] #[.pointer (some ⟨w.heap.size, 0, none⟩)], .func (.func 51) #[] #[], .func (.func 52) #[] #[], .func (.func 53) #[] #[]] 78)
  rw [World.size_alloc] at T0
  have h5 : k = 0 ∨ k = 1 ∨ k = 2 ∨ k = 3 ∨ k = 4 := by omega
  rcases h5 with rfl | rfl | rfl | rfl | rfl
  · exact cell_of_row _ _ 0 _ 78 (0, 0) T0
  · exact cell_of_row _ _ 1 _ 78 (0, 0) T0
  · exact cell_of_row _ _ 2 _ 78 (0, 0) T0
  · exact cell_of_row _ _ 3 _ 78 (0, 0) T0
  · exact cell_of_row _ _ 4 _ 78 (0, 0) T0
end Go.Proofs.Ytmofaahhnokohaa.Code
