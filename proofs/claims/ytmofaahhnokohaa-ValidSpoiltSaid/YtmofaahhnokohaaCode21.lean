/- Walk: valid.Forks. -/
import Derived.Test.YtmofaahhnokohaaCode20
import Derived.Test.YtmofaahhnokohaaCode16
namespace Go.Proofs.Ytmofaahhnokohaa.Code
set_option linter.unusedSimpArgs false
set_option linter.unusedVariables false
open Go.RowKit Go.Proofs.YtmofaahhnokohaaW.PrintWords Go.Proofs.YtmofaahhnokohaaW.PrintLast Go.Proofs.YtmofaahhnokohaaW.PrintMore PCodeAll Go.Proofs.YtmofaahhnokohaaW.CanonE
attribute [local go_sem] max2_mx min2_mn max_two min_two max_three min_three max_four min_four

def isFork (x : S26) : Bool := x.f0 == 9
def cntN (f : List S26) : Nat := (f.filter isFork).length
theorem cnt_step (f : List S26) (j : Nat) (h : j < f.length) : cntN (f.take (j + 1)) = cntN (f.take j) + (if isFork (f[j]'h) = true then 1 else 0) := by
  rw [← List.take_append_getElem h, cntN, cntN, List.filter_append, List.length_append]
  by_cases h1 : isFork (f[j]'h) = true
  · rw [if_pos h1]; simp [h1]
  · rw [if_neg h1]; simp [h1]
theorem cnt_le (f : List S26) (j : Nat) : cntN (f.take j) ≤ j := by
  have h1 := List.length_filter_le isFork (f.take j)
  have h2 : (f.take j).length ≤ j := by rw [List.length_take]; omega
  exact Nat.le_trans h1 h2
def cnts (fs : List (List S26)) (k : Nat) : List Int := ((fs.take k).map (fun f => (cntN f : Int))) ++ List.replicate (fs.length - k) 0
theorem cnts_len (fs : List (List S26)) (k : Nat) (h : k ≤ fs.length) : (cnts fs k).length = fs.length := by
  rw [cnts, List.length_append, List.length_map, List.length_take, List.length_replicate]
  omega
theorem cnts_zero (fs : List (List S26)) : cnts fs 0 = List.replicate fs.length 0 := by
  rw [cnts, List.take_zero, List.map_nil, List.nil_append, Nat.sub_zero]
theorem cnts_all (fs : List (List S26)) : cnts fs fs.length = fs.map (fun f => (cntN f : Int)) := by
  rw [cnts, List.take_length, Nat.sub_self, List.replicate_zero, List.append_nil]
theorem cnts_split (fs : List (List S26)) (k : Nat) (h : k < fs.length) (a : Int) : (cnts fs k).set k a = ((fs.take k).map (fun f => (cntN f : Int))) ++ a :: List.replicate (fs.length - (k + 1)) 0 := by
  have e : fs.length - k = (fs.length - (k + 1)) + 1 := by omega
  have hl : ((fs.take k).map (fun f => (cntN f : Int))).length = k := by rw [List.length_map, List.length_take]; omega
  rw [cnts, List.set_append_right _ _ (by omega), hl, Nat.sub_self, e, List.replicate_succ, List.set_cons_zero]
theorem cnts_start (fs : List (List S26)) (k : Nat) (h : k < fs.length) : (cnts fs k).set k 0 = cnts fs k := by
  have e : fs.length - k = (fs.length - (k + 1)) + 1 := by omega
  rw [cnts_split fs k h, cnts, e, List.replicate_succ]
theorem cnts_next (fs : List (List S26)) (k : Nat) (h : k < fs.length) : (cnts fs k).set k (cntN (fs[k]'h) : Int) = cnts fs (k + 1) := by
  rw [cnts_split fs k h, cnts, ← List.take_append_getElem h, List.map_append, List.append_assoc]
  rfl
/-- A row of ints of the call's own. -/
def OI (w : World) (b g n : Nat) (xs : List Int) : Prop := w.ownsRow b 3 1 (.slice (some ⟨g, 0, none⟩) n n) n (nums .i64 xs)
theorem OI.cell {w : World} {b g n : Nat} {xs : List Int} (h : OI w b g n xs) (i : Nat) (hi : i < n) : w.cell? ⟨g, i, none⟩ = some (.int .i64 (xs.getD i 0)) := by
  obtain ⟨_, _, h3⟩ := own_reads' h
  obtain ⟨ad, e, hc⟩ := h3 (by omega)
  injection e with e
  subst e
  have := hc i hi
  rwa [add_plain] at this
theorem OI.free {w : World} {b g n : Nat} {xs : List Int} (h : OI w b g n xs) (i : Nat) : w.frozen? ⟨g, i, none⟩ = false := by
  rcases h.2 with ⟨he, _⟩ | ⟨g', cap, cur, he, _, hh, _⟩
  · cases he
  · injection he with h1 _ _
    injection h1 with h1
    injection h1 with h1
    subst h1
    exact blk_frozen hh i
theorem OI.below {w w1 : World} {b g n : Nat} {xs : List Int} (h : OI w b g n xs) (hb : Below w.heap.size w w1) : OI w1 b g n xs :=
  own_move h (fun k hk => hb.block k (own_lt h k hk))
theorem OI.base {w : World} {b g n : Nat} {xs : List Int} (h : OI w b g n xs) : b ≤ g := own_base h g (by simp [Value.ownBlock])
theorem OI.lt {w : World} {b g n : Nat} {xs : List Int} (h : OI w b g n xs) : g < w.heap.size := own_lt h g (by simp [Value.ownBlock])
theorem OI.put {w : World} {b g n : Nat} {xs : List Int} (h : OI w b g n xs) (i : Nat) (x : Int) : OI (w.setCell ⟨g, i, none⟩ (.int .i64 x)) b g n (xs.set i x) := by
  have := (own_store h (i : Int) x).1
  rwa [Int.toNat_natCast] at this
theorem OI.far {w : World} {b g n : Nat} {xs : List Int} (h : OI w b g n xs) (a : Addr) (u : Value) (ha : a.block ≠ g) : OI (w.setCell a u) b g n xs :=
  own_move h (fun k hk => Below.heap_setCell w a u k (by
    have hgk : g = k := by simpa [Value.ownBlock] using hk
    rw [← hgk]
    exact Ne.symm ha))
theorem getD_set_self (l : List Int) (k : Nat) (a : Int) (h : k < l.length) : (l.set k a).getD k 0 = a := by
  rw [List.getD_eq_getElem?_getD, List.getElem?_set_self h]
  rfl
set_option maxHeartbeats 1000000 in
theorem Forks_calls (p : PG) (A : Option Addr) (c : Nat) (w : World) (hC : p.C w A) (hf : FewB p.fs) :
    Calls Try.prog 25 #[p.val A c] w fun e w' => ∃ g, e = .returned (.slice (some ⟨g, 0, none⟩) p.fs.length p.fs.length) ∧ OI w' w.heap.size g p.fs.length (p.fs.map (fun f => (cntN f : Int))) ∧ Below w.heap.size w w' := by
  obtain ⟨fs, fu, de, fl⟩ := p
  have HC := Aside0.mk (show Kd.C (Kd.slice 26 k26) w A fs.length fs from hC)
  have HF := Aside0.mk (show FewB fs from hf)
  clear hC hf
  have S0 := heap_alloc_new w (.cells #[.slice A fs.length c, .int .i64 fu, .int .i64 de, .int .i64 fl] 33)
  have HB := Aside0.mk (below_alloc (Below.refl w.heap.size w) (.cells #[.slice A fs.length c, .int .i64 fu, .int .i64 de, .int .i64 fl] 33))
  obtain ⟨r0, r1, r2, r3⟩ := ps_reads S0
  have hmk := print_make (P := Try.prog) 30 3 .i64 8 Try.underlying30 (by kernel_rfl) (by decide) fs.length (by have := HF.out.1; omega)
  have HO := Aside0.mk (show OI ((w.alloc (.cells #[.slice A fs.length c, .int .i64 fu, .int .i64 de, .int .i64 fl] 33)).alloc (.cells (madeCells #[.int .i64 0] fs.length) 3)) w.heap.size (w.heap.size + 1) fs.length (cnts fs 0) by
    have h := own_made (w.alloc (.cells #[.slice A fs.length c, .int .i64 fu, .int .i64 de, .int .i64 fl] 33)) w.heap.size 3 .i64 fs.length (by rw [World.size_alloc]; omega) (by have := HF.out.1; omega)
    rw [World.size_alloc] at h
    rw [cnts_zero]
    exact h)
  have HB2 := Aside0.mk (below_alloc HB.out (.cells (madeCells #[.int .i64 0] fs.length) 3))
  have S1 := Aside0.mk (blk_alloc S0 (.cells (madeCells #[.int .i64 0] fs.length) 3))
  clear S0 HB
  show Calls Try.prog 25 #[.agg #[.slice A fs.length c, .int .i64 fu, .int .i64 de, .int .i64 fl]] w _
  go_enter Try.func25, Try.ntmps25
  go_wp2_with (fail)
  clear r0 r1 r2 r3 hmk
  revert HO HB2 S1
  generalize (w.alloc (.cells #[.slice A fs.length c, .int .i64 fu, .int .i64 de, .int .i64 fl] 33)).alloc (.cells (madeCells #[.int .i64 0] fs.length) 3) = w1
  intro HO HB2 S1
  obtain ⟨g, hg⟩ : ∃ g, w.heap.size + 1 = g := ⟨_, rfl⟩
  rw [hg] at HO
  rw [hg]
  clear hg S1
  go_loopw [15] (fun u w' => ∃ k : Nat, u = .int .i64 k ∧ k ≤ fs.length ∧ Aside0 (OI w' w.heap.size g fs.length (cnts fs k)) ∧ Aside0 (Below w.heap.size w w')) (fun u _ => fs.length - (intOf u).toNat)
  case atStart => exact ⟨0, rfl, by omega, HO, HB2⟩
  case round =>
    obtain ⟨k, rfl, hk, HI, HJ⟩ := hrel
    clear HO HB2
    by_cases hlt : k < fs.length
    · obtain ⟨ad, A0, c0, rfl, a0', _, hA0⟩ := at_L2 HC.out k (by omega) (by omega)
      rw [Int.toNat_natCast, rd_L2_at fs k hlt] at a0'
      rw [rd_L2_at fs k hlt] at hA0
      have hix := fun (W : World) => ix31 ad fs.length c (k : Int) k W (by omega) (by omega) (Int.toNat_natCast k)
      have h45 := HF.out.2 _ (List.getElem_mem hlt)
      have h15 := HF.out.1
      have HNX := Aside0.mk (cnts_next fs k hlt)
      have HS0 := Aside0.mk (cnts_start fs k hlt)
      obtain ⟨f, hf⟩ : ∃ f, fs[k]'hlt = f := ⟨_, rfl⟩
      rw [hf] at a0' hA0 h45 HNX
      have a0 := cell_below a0' HJ.out
      have HFC := Aside0.mk hA0
      have HLT := Aside0.mk hlt
      have hixk := fun (W : World) => ix30 ⟨g, 0, none⟩ fs.length fs.length (k : Int) k W (by omega) (by omega) (Int.toNat_natCast k)
      have HIX := Aside0.mk (fun W => show (Instr.indexAt 30 (.slice (some ⟨g, 0, none⟩) fs.length fs.length) (.int .i64 (k : Int))).run Try.prog W = .ok (.pointer (some ⟨g, k, none⟩)) W by have h := hixk W; rwa [add_plain] at h)
      have hk5 : k ≤ 15 := by omega
      have HW5 := Aside0.mk (show wrap64 ((k : Int) + 1) = (k : Int) + 1 from wrap64_id _ (by omega))
      clear hf hA0 a0' hixk
      go_wp2_with (fail)
      clear a0 hix
      go_loopw [22] (fun u w' => ∃ j : Nat, u = .int .i64 j ∧ j ≤ f.length ∧ Aside0 (OI w' w.heap.size g fs.length ((cnts fs k).set k (cntN (f.take j) : Int))) ∧ Aside0 (Below w.heap.size w w')) (fun u _ => f.length - (intOf u).toNat)
      case atStart => exact ⟨0, rfl, by omega, ⟨by rw [show ((cntN (f.take 0) : Nat) : Int) = 0 from rfl, HS0.out]; exact HI.out⟩, HJ⟩
      case round =>
        obtain ⟨j, rfl, hj, HI2, HJ2⟩ := hrel
        clear HI HJ
        by_cases hjl : j < f.length
        · obtain ⟨af, hAf, b0', b1', b2', b3'⟩ := at_T26 HFC.out j (by omega) (by omega)
          subst hAf
          obtain ⟨nn, hnn⟩ : ∃ nn : Nat, ((j : Int)).toNat * 4 = nn := ⟨_, rfl⟩
          rw [hnn, rd_T26_at f j hjl] at b0' b1' b2' b3'
          have hix2 := fun (W : World) => ix38 af f.length c0 (j : Int) nn W (by omega) (by omega) hnn
          have hst := cnt_step f j hjl
          have hcl := cnt_le f j
          obtain ⟨x, hx⟩ : ∃ x, f[j]'hjl = x := ⟨_, rfl⟩
          rw [hx] at b0' b1' b2' b3' hst
          have hcell := HI2.out.cell k HLT.out
          rw [getD_set_self _ _ _ (by rw [cnts_len fs k (Nat.le_of_lt HLT.out)]; exact HLT.out)] at hcell
          obtain ⟨m, hm⟩ : ∃ m, cntN (f.take j) = m := ⟨_, rfl⟩
          rw [hm] at hst hcl hcell HI2
          have b0 := cell_below b0' HJ2.out
          have b1 := cell_below b1' HJ2.out
          have b2 := cell_below b2' HJ2.out
          have b3 := cell_below b3' HJ2.out
          have hm5 : m ≤ 45 := by omega
          have HGL := Aside0.mk HI2.out.lt
          have HGB := Aside0.mk HI2.out.base
          have HST := Aside0.mk hst
          clear hx hnn b0' b1' b2' b3' hst hcl hm
          have hal := below_alloc (Below.refl wr.heap.size wr) (.cells #[.int .i64 x.f0, .int .i64 x.f1, .int .i64 x.f2, .int .i64 x.f3] 26)
          have HI3 := Aside0.mk (HI2.out.below hal)
          have HJ3 := Aside0.mk (below_step HJ2.out hal)
          have q0 := HI3.out.free k
          have hcell2 := cell_below hcell hal
          have hixk := HIX.out
          clear hal
          by_cases h9 : isFork x = true
          · have t9 : (x.f0 == 9) = true := h9
            have HS9 := Aside0.mk (show cntN (f.take (j + 1)) = m + 1 by rw [HST.out, if_pos h9])
            have HI4 := Aside0.mk (HI3.out.put k ((m : Int) + 1))
            have HJ4 := Aside0.mk (HJ3.out.setCell (p := ⟨g, k, none⟩) HGB.out (.int .i64 ((m : Int) + 1)))
            rw [List.set_set] at HI4
            clear h9
            go_wp2_with (fail)
            go_roundw
            case rel => exact ⟨j + 1, rfl, Nat.succ_le_of_lt hjl, ⟨by rw [HS9.out]; exact HI4.out⟩, HJ4⟩
            case measure => simp only [intOf]; exact cs_meas' hjl
          · have t9 : (x.f0 == 9) = false := by simpa [isFork] using h9
            have HS9 := Aside0.mk (show cntN (f.take (j + 1)) = m by rw [HST.out, if_neg h9, Nat.add_zero])
            clear h9
            go_wp2_with (fail)
            go_roundw
            case rel => exact ⟨j + 1, rfl, Nat.succ_le_of_lt hjl, ⟨by rw [HS9.out]; exact HI3.out⟩, HJ3⟩
            case measure => simp only [intOf]; exact cs_meas' hjl
        · have hje : j = f.length := by omega
          have hjd : decide (j < f.length) = false := decide_eq_false hjl
          have HI5 := Aside0.mk (show OI wr w.heap.size g fs.length (cnts fs (k + 1)) by
            have h := HI2.out
            rw [hje, List.take_length, HNX.out] at h
            exact h)
          clear hje hjl hj
          go_wp2_with (fail)
          go_roundw
          case rel => exact ⟨k + 1, rfl, Nat.succ_le_of_lt HLT.out, HI5, HJ2⟩
          case measure => simp only [intOf]; exact cs_meas' HLT.out
    · have hke : k = fs.length := by omega
      have hkd : decide (k < fs.length) = false := decide_eq_false hlt
      have HE := Aside0.mk (show OI wr w.heap.size g fs.length (fs.map (fun f => (cntN f : Int))) by
        have h := HI.out
        rw [hke, cnts_all] at h
        exact h)
      clear hke hlt hk
      go_wp2_with (fail)
      go_ret
      exact ⟨g, rfl, HE.out, HJ.out⟩
end Go.Proofs.Ytmofaahhnokohaa.Code
