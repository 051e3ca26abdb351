/- Walks: slices.IndexFunc, slices.ContainsFunc at our function values; valid.Cancels, valid.Forks. -/
import Derived.Test.YtmofaahhnokohaaCode14
import Derived.Test.YtmofaahhnokohaaCode11
import Derived.Laws.ByValue
import Derived.Laws.EntriesVeiled
namespace Go.Proofs.Ytmofaahhnokohaa.Code
set_option linter.unusedSimpArgs false
set_option linter.unusedVariables false
open Go.RowKit Go.Proofs.YtmofaahhnokohaaW.PrintWords Go.Proofs.YtmofaahhnokohaaW.PrintLast Go.Proofs.YtmofaahhnokohaaW.PrintMore PCodeAll Go.Proofs.YtmofaahhnokohaaW.CanonE
attribute [local go_sem] max2_mx min2_mn max_two min_two max_three min_three max_four min_four

/-- What a call of a function value on an instruction comes to, in any world that keeps w's. -/
def Pred26 (g : Nat) (lb : Array Value) (q : S26 → Bool) (w : World) : Prop :=
  ∀ (W : World) (x : S26), Below w.heap.size w W → Calls Try.prog g (#[.agg #[.int .i64 x.f0, .int .i64 x.f1, .int .i64 x.f2, .int .i64 x.f3]] ++ lb) W fun e w' => e = .returned (.bool (q x)) ∧ Below W.heap.size W w'
/-- An index, or -1. -/
def IdxOf (b : Bool) (w : World) (e : Ending) (w' : World) : Prop := ∃ i : Int, e = .returned (.int .i64 i) ∧ decide (0 ≤ i) = b ∧ Below w.heap.size w w'
theorem any_take_false {α : Type} {q : α → Bool} {f : List α} {j : Nat} (h : (f.take j).any q = false) (hj : f.length ≤ j) : f.any q = false := by
  rwa [List.take_of_length_le hj] at h

set_option maxHeartbeats 1000000 in
theorem Index46_calls (lb : Array Value) (q : S26 → Bool) (f : List S26) (A : Option Addr) (c : Nat) (w : World) (hC : Kd.C k26 w A f.length f) (hP : Pred26 46 lb q w) :
    Calls Try.prog 54 #[.slice A f.length c, .func (.func 46) #[] lb] w (IdxOf (f.any q) w) := by
  have HC := Aside0.mk hC
  have HP := Aside0.mk hP
  clear hC hP
  go_enter Try.func54, Try.ntmps54
  go_wp2_with (fail)
  go_loopw [8] (fun u w' => ∃ j : Nat, u = .int .i64 j ∧ j ≤ f.length ∧ Aside0 ((f.take j).any q = false) ∧ Aside0 (Below w.heap.size w w')) (fun u _ => f.length - (intOf u).toNat)
  case atStart => exact ⟨0, rfl, by omega, ⟨rfl⟩, ⟨Below.refl _ _⟩⟩
  case round =>
    obtain ⟨j, rfl, hj, HQ, HI⟩ := hrel
    by_cases hjl : j < f.length
    · obtain ⟨af, hA, b0', b1', b2', b3'⟩ := at_T26 HC.out j (by omega) (by omega)
      subst hA
      obtain ⟨nn, hnn⟩ : ∃ nn : Nat, ((j : Int)).toNat * 4 = nn := ⟨_, rfl⟩
      rw [hnn, rd_T26_at f j hjl] at b0' b1' b2' b3'
      have hix2 := fun (W : World) => ix38 af f.length c (j : Int) nn W (by omega) (by omega) hnn
      have hst := any_step q f j hjl
      have HHERE := Aside0.mk (any_here q f j hjl)
      rw [HQ.out] at hst
      obtain ⟨x, hx⟩ : ∃ x, f[j]'hjl = x := ⟨_, rfl⟩
      rw [hx] at b0' b1' b2' b3' hst HHERE
      have HST := Aside0.mk hst
      have b0 := cell_below b0' HI.out
      have b1 := cell_below b1' HI.out
      have b2 := cell_below b2' HI.out
      have b3 := cell_below b3' HI.out
      have HW := Aside0.mk (wrap_next hjl HC.out.2.1)
      clear hx hnn b0' b1' b2' b3' hst
      go_wp2_with (fail)
      refine (HP.out _ x HI.out).mono ?_
      rintro e w1 ⟨rfl, hb1⟩
      have HI1 := Aside0.mk (below_step HI.out hb1)
      obtain ⟨b, hb⟩ : ∃ b, q x = b := ⟨_, rfl⟩
      have HQX := Aside0.mk hb
      rw [hb] at HST HHERE
      rw [hb]
      clear hb1 b0 b1 b2 b3 hix2 hb
      cases b with
      | true =>
        go_wp2_with (fail)
        go_ret
        exact ⟨(j : Int), rfl, by rw [HHERE.out (by first | exact trivial | rfl)]; exact decide_eq_true (Int.natCast_nonneg j), HI1.out⟩
      | false =>
        go_wp2_with (fail)
        go_roundw
        case rel => exact ⟨j + 1, num_next HW.out, Nat.succ_le_of_lt hjl, ⟨HST.out⟩, HI1⟩
        case measure => exact meas_next hjl HW.out
    · have hjd : decide (j < f.length) = false := decide_eq_false hjl
      have HE := Aside0.mk (any_take_false HQ.out (Nat.le_of_not_lt hjl))
      go_wp2_with (fail)
      go_ret
      exact ⟨-1, rfl, by rw [HE.out]; rfl, HI.out⟩
set_option maxHeartbeats 1000000 in
theorem Index43_calls (lb : Array Value) (q : S26 → Bool) (f : List S26) (A : Option Addr) (c : Nat) (w : World) (hC : Kd.C k26 w A f.length f) (hP : Pred26 43 lb q w) :
    Calls Try.prog 54 #[.slice A f.length c, .func (.func 43) #[] lb] w (IdxOf (f.any q) w) := by
  have HC := Aside0.mk hC
  have HP := Aside0.mk hP
  clear hC hP
  go_enter Try.func54, Try.ntmps54
  go_wp2_with (fail)
  go_loopw [8] (fun u w' => ∃ j : Nat, u = .int .i64 j ∧ j ≤ f.length ∧ Aside0 ((f.take j).any q = false) ∧ Aside0 (Below w.heap.size w w')) (fun u _ => f.length - (intOf u).toNat)
  case atStart => exact ⟨0, rfl, by omega, ⟨rfl⟩, ⟨Below.refl _ _⟩⟩
  case round =>
    obtain ⟨j, rfl, hj, HQ, HI⟩ := hrel
    by_cases hjl : j < f.length
    · obtain ⟨af, hA, b0', b1', b2', b3'⟩ := at_T26 HC.out j (by omega) (by omega)
      subst hA
      obtain ⟨nn, hnn⟩ : ∃ nn : Nat, ((j : Int)).toNat * 4 = nn := ⟨_, rfl⟩
      rw [hnn, rd_T26_at f j hjl] at b0' b1' b2' b3'
      have hix2 := fun (W : World) => ix38 af f.length c (j : Int) nn W (by omega) (by omega) hnn
      have hst := any_step q f j hjl
      have HHERE := Aside0.mk (any_here q f j hjl)
      rw [HQ.out] at hst
      obtain ⟨x, hx⟩ : ∃ x, f[j]'hjl = x := ⟨_, rfl⟩
      rw [hx] at b0' b1' b2' b3' hst HHERE
      have HST := Aside0.mk hst
      have b0 := cell_below b0' HI.out
      have b1 := cell_below b1' HI.out
      have b2 := cell_below b2' HI.out
      have b3 := cell_below b3' HI.out
      have HW := Aside0.mk (wrap_next hjl HC.out.2.1)
      clear hx hnn b0' b1' b2' b3' hst
      go_wp2_with (fail)
      refine (HP.out _ x HI.out).mono ?_
      rintro e w1 ⟨rfl, hb1⟩
      have HI1 := Aside0.mk (below_step HI.out hb1)
      obtain ⟨b, hb⟩ : ∃ b, q x = b := ⟨_, rfl⟩
      have HQX := Aside0.mk hb
      rw [hb] at HST HHERE
      rw [hb]
      clear hb1 b0 b1 b2 b3 hix2 hb
      cases b with
      | true =>
        go_wp2_with (fail)
        go_ret
        exact ⟨(j : Int), rfl, by rw [HHERE.out (by first | exact trivial | rfl)]; exact decide_eq_true (Int.natCast_nonneg j), HI1.out⟩
      | false =>
        go_wp2_with (fail)
        go_roundw
        case rel => exact ⟨j + 1, num_next HW.out, Nat.succ_le_of_lt hjl, ⟨HST.out⟩, HI1⟩
        case measure => exact meas_next hjl HW.out
    · have hjd : decide (j < f.length) = false := decide_eq_false hjl
      have HE := Aside0.mk (any_take_false HQ.out (Nat.le_of_not_lt hjl))
      go_wp2_with (fail)
      go_ret
      exact ⟨-1, rfl, by rw [HE.out]; rfl, HI.out⟩

theorem Contains46_calls (lb : Array Value) (q : S26 → Bool) (f : List S26) (A : Option Addr) (c : Nat) (w : World) (hC : Kd.C k26 w A f.length f) (hP : Pred26 46 lb q w) :
    Calls Try.prog 42 #[.slice A f.length c, .func (.func 46) #[] lb] w fun e w' => e = .returned (.bool (f.any q)) ∧ Below w.heap.size w w' := by
  go_enter Try.func42, Try.ntmps42
  go_wp2_with (fail)
  refine (Index46_calls lb q f A c _ hC hP).mono ?_
  rintro e w1 ⟨i, rfl, hi, hb⟩
  have HB := Aside0.mk hb
  have HI := Aside0.mk hi
  clear hb hi
  go_wp2_with (fail)
  go_ret
  exact ⟨by rw [← HI.out]; rfl, HB.out⟩
theorem Contains43_calls (lb : Array Value) (q : S26 → Bool) (f : List S26) (A : Option Addr) (c : Nat) (w : World) (hC : Kd.C k26 w A f.length f) (hP : Pred26 43 lb q w) :
    Calls Try.prog 42 #[.slice A f.length c, .func (.func 43) #[] lb] w fun e w' => e = .returned (.bool (f.any q)) ∧ Below w.heap.size w w' := by
  go_enter Try.func42, Try.ntmps42
  go_wp2_with (fail)
  refine (Index43_calls lb q f A c _ hC hP).mono ?_
  rintro e w1 ⟨i, rfl, hi, hb⟩
  have HB := Aside0.mk hb
  have HI := Aside0.mk hi
  clear hb hi
  go_wp2_with (fail)
  go_ret
  exact ⟨by rw [← HI.out]; rfl, HB.out⟩
/-- Does an instruction cancel? -/
def isCan (x : S26) : Bool := x.f0 == 13
def canB (f : List S26) : Bool := f.any isCan
theorem can46 (w : World) : Pred26 46 #[] isCan w := by
  intro W x _
  have S0 := heap_alloc_new W (.cells #[.int .i64 x.f0, .int .i64 x.f1, .int .i64 x.f2, .int .i64 x.f3] 26)
  have HB := Aside0.mk (below_alloc (Below.refl W.heap.size W) (.cells #[.int .i64 x.f0, .int .i64 x.f1, .int .i64 x.f2, .int .i64 x.f3] 26))
  obtain ⟨r0, r1, r2, r3⟩ := ins_reads S0
  clear S0
  show Calls Try.prog 46 #[.agg #[.int .i64 x.f0, .int .i64 x.f1, .int .i64 x.f2, .int .i64 x.f3]] W _
  go_enter Try.func46, Try.ntmps46
  go_wp2_with (fail)
  go_ret
  exact ⟨rfl, HB.out⟩
theorem can45_calls (f : List S26) (A : Option Addr) (c : Nat) (w : World) (hC : Kd.C k26 w A f.length f) :
    Calls Try.prog 45 #[.slice A f.length c] w fun e w' => e = .returned (.bool (canB f)) ∧ Below w.heap.size w w' := by
  go_enter Try.func45, Try.ntmps45
  go_wp2_with (fail)
  refine (Contains46_calls #[] isCan f A c _ hC (can46 _)).mono ?_
  rintro e w1 ⟨rfl, hb⟩
  have HB := Aside0.mk hb
  clear hb
  go_wp2_with (fail)
  go_ret
  exact ⟨rfl, HB.out⟩
set_option maxHeartbeats 1000000 in
theorem Index45_calls (fs : List (List S26)) (A : Option Addr) (c : Nat) (w : World) (hC : Kd.C (Kd.slice 26 k26) w A fs.length fs) :
    Calls Try.prog 55 #[.slice A fs.length c, .func (.func 45) #[] #[]] w (IdxOf (fs.any canB) w) := by
  have HC := Aside0.mk hC
  clear hC
  go_enter Try.func55, Try.ntmps55
  go_wp2_with (fail)
  go_loopw [8] (fun u w' => ∃ j : Nat, u = .int .i64 j ∧ j ≤ fs.length ∧ Aside0 ((fs.take j).any canB = false) ∧ Aside0 (Below w.heap.size w w')) (fun u _ => fs.length - (intOf u).toNat)
  case atStart => exact ⟨0, rfl, by omega, ⟨rfl⟩, ⟨Below.refl _ _⟩⟩
  case round =>
    obtain ⟨j, rfl, hj, HQ, HI⟩ := hrel
    by_cases hjl : j < fs.length
    · obtain ⟨ad, A0, c0, rfl, a0', _, hA0⟩ := at_L2 HC.out j (by omega) (by omega)
      rw [Int.toNat_natCast, rd_L2_at fs j hjl] at a0'
      rw [rd_L2_at fs j hjl] at hA0
      have hix := fun (W : World) => ix31 ad fs.length c (j : Int) j W (by omega) (by omega) (Int.toNat_natCast j)
      have hst := any_step canB fs j hjl
      have HHERE := Aside0.mk (any_here canB fs j hjl)
      rw [HQ.out] at hst
      obtain ⟨f, hf⟩ : ∃ f, fs[j]'hjl = f := ⟨_, rfl⟩
      rw [hf] at a0' hA0 hst HHERE
      have HST := Aside0.mk hst
      have HF := Aside0.mk hA0
      have a0 := cell_below a0' HI.out
      have HW := Aside0.mk (wrap_next hjl HC.out.2.1)
      clear hf hst hA0 a0'
      go_wp2_with (fail)
      refine (can45_calls f A0 c0 _ (Kd.C_below HF.out HI.out)).mono ?_
      rintro e w1 ⟨rfl, hb1⟩
      have HI1 := Aside0.mk (below_step HI.out hb1)
      obtain ⟨b, hb⟩ : ∃ b, canB f = b := ⟨_, rfl⟩
      rw [hb] at HST HHERE
      rw [hb]
      clear hb1 a0 hix hb
      cases b with
      | true =>
        go_wp2_with (fail)
        go_ret
        exact ⟨(j : Int), rfl, by rw [HHERE.out (by first | exact trivial | rfl)]; exact decide_eq_true (Int.natCast_nonneg j), HI1.out⟩
      | false =>
        go_wp2_with (fail)
        go_roundw
        case rel => exact ⟨j + 1, num_next HW.out, Nat.succ_le_of_lt hjl, ⟨HST.out⟩, HI1⟩
        case measure => exact meas_next hjl HW.out
    · have hjd : decide (j < fs.length) = false := decide_eq_false hjl
      have HE := Aside0.mk (any_take_false HQ.out (Nat.le_of_not_lt hjl))
      go_wp2_with (fail)
      go_ret
      exact ⟨-1, rfl, by rw [HE.out]; rfl, HI.out⟩
theorem Contains45_calls (fs : List (List S26)) (A : Option Addr) (c : Nat) (w : World) (hC : Kd.C (Kd.slice 26 k26) w A fs.length fs) :
    Calls Try.prog 44 #[.slice A fs.length c, .func (.func 45) #[] #[]] w fun e w' => e = .returned (.bool (fs.any canB)) ∧ Below w.heap.size w w' := by
  go_enter Try.func44, Try.ntmps44
  go_wp2_with (fail)
  refine (Index45_calls fs A c _ hC).mono ?_
  rintro e w1 ⟨i, rfl, hi, hb⟩
  have HB := Aside0.mk hb
  have HI := Aside0.mk hi
  clear hb hi
  go_wp2_with (fail)
  go_ret
  exact ⟨by rw [← HI.out]; rfl, HB.out⟩
theorem Cancels_calls (p : PG) (A : Option Addr) (c : Nat) (w : World) (hC : p.C w A) :
    Calls Try.prog 26 #[p.val A c] w fun e w' => e = .returned (.bool (p.fs.any canB)) ∧ Below w.heap.size w w' := by
  have S0 := heap_alloc_new w (.cells #[.slice A p.fs.length c, .int .i64 p.fu, .int .i64 p.de, .int .i64 p.fl] 33)
  have HB := Aside0.mk (below_alloc (Below.refl w.heap.size w) (.cells #[.slice A p.fs.length c, .int .i64 p.fu, .int .i64 p.de, .int .i64 p.fl] 33))
  have HC := Aside0.mk (Kd.C_below hC HB.out)
  obtain ⟨r0, r1, r2, r3⟩ := ps_reads S0
  clear S0 hC
  show Calls Try.prog 26 #[.agg #[.slice A p.fs.length c, .int .i64 p.fu, .int .i64 p.de, .int .i64 p.fl]] w _
  go_enter Try.func26, Try.ntmps26
  go_wp2_with (fail)
  refine (Contains45_calls p.fs A c _ HC.out).mono ?_
  rintro e w1 ⟨rfl, hb⟩
  have HB1 := Aside0.mk (below_step HB.out hb)
  clear hb r0 r1 r2 r3
  go_wp2_with (fail)
  go_ret
  exact ⟨rfl, HB1.out⟩
end Go.Proofs.Ytmofaahhnokohaa.Code
