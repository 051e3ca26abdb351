/- Walks: the windows, sameness, the workers of picks, the document's example. -/
import Derived.Test.YtgmkmdlcifhlaaaFair2
import Derived.Test.YtgmkmdlcifhlaaaFair4
namespace Go.Proofs.Ytgmkmdlcifhlaaa.Fair
open Go.RowKit Go.Proofs.YtgmkmdlcifhlaaaW.PrintWords Go.Proofs.YtgmkmdlcifhlaaaW.PrintLast Go.Proofs.YtgmkmdlcifhlaaaW.PrintMore PFairAll Go.Proofs.YtgmkmdlcifhlaaaW.Canon
attribute [local go_sem] max2_mx min2_mn max_two min_two max_three min_three max_four min_four

theorem Window_calls (work : Int) (A : Option Addr) (c : Nat) (l : List Int) (w : World) (hr : Kd.C (Kd.int .i64) w A l.length l) (hc : l.length ≤ c) (hl : l.length ≤ 17592186044416) :
    Calls Try.prog 10 #[.int .i64 work, .slice A l.length c] w fun e w' => e = .returned (.int .i64 (winP work l)) ∧ Below w.heap.size w w' := by
  obtain ⟨k, hk⟩ := window_f work l hl
  exact fair_Window.calls k work A c l _ w hr hc hk

theorem refAll_calls (work : Int) (A : Option Addr) (c : Nat) (l : List Int) (w : World) (hr : Kd.C (Kd.int .i64) w A l.length l) (hl : l.length ≤ 17592186044416) (hw : work ≤ 4611686018427387904) :
    Calls Try.prog 18 #[.int .i64 work, .slice A l.length c] w fun e w' => e = .returned (.bool (allB work l)) ∧ w = w' := by
  have HR := Aside0.mk hr
  clear hr
  go_enter Try.func18, Try.ntmps18
  go_wp2
  go_loop [5] (fun v => ∃ x : Nat, v = .int .i64 x ∧ (x : Int) ≤ mx work 0 ∧ Aside0 (∀ y : Nat, y < x → (l.any fun z => z == (y : Int)) = true)) (fun v => (mx work 0).toNat - (intOf v).toNat)
  case atStart => exact ⟨0, rfl, by unfold mx; split <;> omega, ⟨fun y hy => by omega⟩⟩
  case round =>
    obtain ⟨x, rfl, hx, HX⟩ := hrel
    have hmx : mx work 0 ≤ 4611686018427387904 := by unfold mx; split <;> omega
    by_cases hlt : (x : Int) < work
    · have hmw : mx work 0 = work := by unfold mx; split <;> omega
      have HM := Aside0.mk hmw
      clear hmw
      go_wp2
      go_loop [6, 7] (fun b v => ∃ i : Nat, v = .int .i64 i ∧ i ≤ l.length ∧ b = .bool ((l.take i).any fun z => z == (x : Int))) (fun _ v => l.length - (intOf v).toNat)
      case atStart => exact ⟨0, rfl, by omega, rfl⟩
      case round =>
        obtain ⟨i, rfl, hi, rfl⟩ := hrel
        by_cases hil : i < l.length
        · obtain ⟨b, hb⟩ : ∃ b, ((l.take i).any fun z => z == (x : Int)) = b := ⟨_, rfl⟩
          have hnext : ((l.take (i + 1)).any fun z => z == (x : Int)) = (b || (rd l i == (x : Int))) := by
            rw [List.take_succ_eq_append_getElem hil, List.any_append, hb]
            simp [rd, List.getD_eq_getElem?_getD, List.getElem?_eq_getElem hil]
          have HN := Aside0.mk hnext
          rw [hb]
          obtain ⟨ad, rfl, hxd⟩ := Kd.at_int HR.out (i : Int) (by omega) (by omega)
          simp only [Int.toNat_natCast] at hxd
          clear hnext hb
          cases b with
          | true =>
            go_wp2
            go_round
            case rel => exact ⟨i + 1, by go_num, by omega, by rw [HN.out]; rfl⟩
            case measure => simp [intOf]; omega
          | false =>
            go_wp2
            go_round
            case rel => exact ⟨i + 1, by go_num, by omega, by rw [HN.out]; rfl⟩
            case measure => simp [intOf]; omega
        · obtain rfl : i = l.length := by omega
          obtain ⟨b, hb⟩ : ∃ b, ((l.take l.length).any fun z => z == (x : Int)) = b := ⟨_, rfl⟩
          rw [hb]
          rw [List.take_length] at hb
          have HBB := Aside0.mk hb
          clear hb
          cases b with
          | true =>
            go_wp2
            go_round
            case rel =>
              refine ⟨x + 1, by go_num, by rw [HM.out]; omega, ⟨fun y hy => ?_⟩⟩
              rcases Nat.lt_or_ge y x with h1 | h1
              · exact HX.out y h1
              · obtain rfl : y = x := by omega
                exact HBB.out
            case measure => have := HM.out; simp [intOf]; omega
          | false =>
            go_wp2
            go_ret
            refine ⟨ret_bool ?_, rfl⟩
            symm
            rw [Bool.eq_false_iff]
            intro hall
            unfold allB at hall
            have := List.all_eq_true.1 hall x (List.mem_range.2 (by omega))
            rw [HBB.out] at this
            cases this
    · go_wp2
      go_ret
      refine ⟨ret_bool ?_, rfl⟩
      symm
      unfold allB
      rw [List.all_eq_true]
      intro y hy
      exact HX.out y (by have := List.mem_range.1 hy; omega)

theorem C_part {w : World} {A : Option Addr} {l : List Int} (h : Kd.C (Kd.int .i64) w A l.length l) (c i f : Nat) (hf : i + f ≤ l.length) (hc : l.length ≤ c) :
    ∃ A' : Option Addr, (∀ W : World, (Instr.slice 22 (.slice A l.length c) (some (.int .i64 (i : Int))) (some (.int .i64 ((i : Int) + (f : Int)))) none).run Try.prog W = .ok (.slice A' f (c - i)) W) ∧
      Kd.C (Kd.int .i64) w A' ((l.take (i + f)).drop i).length ((l.take (i + f)).drop i) := by
  obtain ⟨i0, hi, hzz⟩ := Option.map_eq_some_iff.1 info3
  simp only [Prod.mk.injEq] at hzz
  refine ⟨_, fun W => ?_, Kd.C_mid h (by omega) hf hc⟩
  have := cut_mid (P := Try.prog) 22 3 .i64 .i64 Try.underlying22 hi 1 hzz.2.1 A l.length c i ((i : Int) + f) (by omega) (by omega) (by omega) hc W
  rw [this]
  have e1 : ((i : Int) + (f : Int)).toNat - (i : Int).toNat = f := by omega
  rw [e1]
  rfl

theorem refWindow_calls (work : Int) (A : Option Addr) (c : Nat) (l : List Int) (w : World) (hr : Kd.C (Kd.int .i64) w A l.length l) (hc : l.length ≤ c) (hl : l.length ≤ 17592186044416) (hw : work ≤ 4611686018427387904) :
    Calls Try.prog 11 #[.int .i64 work, .slice A l.length c] w fun e w' => e = .returned (.int .i64 (winP work l)) ∧ w = w' := by
  by_cases h1 : work < 1
  · have HF : Aside0 (winP work l = 0) := ⟨isWin_unique (winP_is work l) (.inl ⟨rfl, .inl h1⟩)⟩
    go_enter Try.func11, Try.ntmps11
    go_wp2
    go_ret
    exact ⟨ret_int (by rw [HF.out]), rfl⟩
  · have HR := Aside0.mk hr
    have HC := Aside0.mk hc
    clear hr hc
    go_enter Try.func11, Try.ntmps11
    go_wp2
    go_loop [5] (fun v => ∃ f : Nat, v = .int .i64 f ∧ 1 ≤ f ∧ f ≤ l.length + 1 ∧ Aside0 (∀ F, 1 ≤ F → F < f → ¬ Good work.toNat l F)) (fun v => l.length + 1 - (intOf v).toNat)
    case atStart => exact ⟨1, rfl, by omega, by omega, ⟨fun F h1 h2 => by omega⟩⟩
    case round =>
      obtain ⟨f, rfl, hf1, hf2, HF⟩ := hrel
      by_cases hlt : f ≤ l.length
      · go_wp2
        go_loop [6, 7] (fun b v => ∃ (i : Nat) (o : Bool), v = .int .i64 i ∧ b = .bool o ∧ i ≤ l.length + 1 - f ∧ (o = true → Aside0 (∀ j, j < i → allB work ((l.take (j + f)).drop j) = true)) ∧ (o = false → Aside0 (¬ Good work.toNat l f))) (fun _ v => l.length + 1 - f - (intOf v).toNat)
        case atStart => exact ⟨0, true, rfl, rfl, by omega, fun _ => ⟨fun j hj => by omega⟩, fun h => by cases h⟩
        case round =>
          obtain ⟨i, o, rfl, rfl, hi, hot, hof⟩ := hrel
          cases o with
          | true =>
            have HT := hot rfl
            clear hot hof
            by_cases hin : i + f ≤ l.length
            · obtain ⟨A', hcut, hC'⟩ := C_part HR.out c i f hin HC.out
              have hlen : ((l.take (i + f)).drop i).length = f := by simp; omega
              rw [hlen] at hC'
              have HL := Aside0.mk hlen
              have HCC := Aside0.mk hC'
              clear hlen hC'
              obtain ⟨p, hp⟩ : ∃ p, (l.take (i + f)).drop i = p := ⟨_, rfl⟩
              rw [hp] at HL HCC
              have HP := Aside0.mk hp
              clear hp
              have hcall0 := refAll_calls work A' (c - i) p w (by rw [HL.out]; exact HCC.out) (by rw [HL.out]; omega) hw
              rw [HL.out] at hcall0
              have hcall := Aside0.mk hcall0
              clear hcall0
              obtain ⟨b, hb⟩ : ∃ b, allB work p = b := ⟨_, rfl⟩
              rw [hb] at hcall
              have HB := Aside0.mk hb
              clear hb
              go_wp2_with (go_at_call 18; refine hcall.out.mono ?_; rintro e w' ⟨rfl, rfl⟩)
              go_round
              case rel =>
                refine ⟨i + 1, b, by go_num, rfl, by omega, fun hbt => ⟨fun j hj => ?_⟩, fun hbf => ⟨fun hg => ?_⟩⟩
                · rcases Nat.lt_or_ge j i with h2 | h2
                  · exact HT.out j h2
                  · obtain rfl : j = i := by omega
                    rw [HP.out, HB.out, hbt]
                · have := (good_all work l f).1 hg i hin
                  rw [HP.out, HB.out, hbf] at this
                  cases this
              case measure => simp [intOf]; omega
            · go_wp2
              go_ret
              refine ⟨ret_int (isWin_unique (.inr ⟨by omega, f, rfl, by omega, by omega, (good_all work l f).2 (fun j hj => HT.out j (by omega)), fun F h2 h3 => HF.out F h2 h3⟩) (winP_is work l)), rfl⟩
          | false =>
            have HN := hof rfl
            clear hot hof
            by_cases hin : i + f ≤ l.length
            · go_wp2
              go_round
              case rel =>
                refine ⟨f + 1, by go_num, by omega, by omega, ⟨fun F h2 h3 => ?_⟩⟩
                rcases Nat.lt_or_ge F f with h4 | h4
                · exact HF.out F h2 h4
                · obtain rfl : F = f := by omega
                  exact HN.out
              case measure => simp [intOf]; omega
            · go_wp2
              go_round
              case rel =>
                refine ⟨f + 1, by go_num, by omega, by omega, ⟨fun F h2 h3 => ?_⟩⟩
                rcases Nat.lt_or_ge F f with h4 | h4
                · exact HF.out F h2 h4
                · obtain rfl : F = f := by omega
                  exact HN.out
              case measure => simp [intOf]; omega
      · go_wp2
        go_ret
        exact ⟨ret_int (isWin_unique (.inl ⟨rfl, .inr fun F h2 h3 => HF.out F h2 (by omega)⟩) (winP_is work l)), rfl⟩
end Go.Proofs.Ytgmkmdlcifhlaaa.Fair
