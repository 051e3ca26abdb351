/- Walk: code.Get. -/
import Derived.Test.YtmofaahhnokohaaCode12
import Derived.Test.YtmofaahhnokohaaCode9
namespace Go.Proofs.Ytmofaahhnokohaa.Code
set_option linter.unusedSimpArgs false
set_option linter.unusedVariables false
open Go.RowKit Go.Proofs.YtmofaahhnokohaaW.PrintWords Go.Proofs.YtmofaahhnokohaaW.PrintLast Go.Proofs.YtmofaahhnokohaaW.PrintMore PCodeAll Go.Proofs.YtmofaahhnokohaaW.CanonE
attribute [local go_sem] max2_mx min2_mn max_two min_two max_three min_three max_four min_four

/-- While bytes are read: the reader in g, the answer's place g2, the program in g5, its functions so far, the one that is being read. -/
structure GS (w0 : World) (g g2 g5 : Nat) (fu de fl : Int) (w : World) (U v : Value) (fs : List (List S26)) (f : List S26) (l : List UInt8) : Prop where
  at_ : IsS71 w0 w g (bs l)
  below : Below w0.heap.size w0 w
  res : w.heap[g2]? = some (.cells #[.slice none 0 0, .int .i64 0, .int .i64 0, .int .i64 0] 33 (0, 0))
  prog : w.heap[g5]? = some (.cells #[U, .int .i64 fu, .int .i64 de, .int .i64 fl] 33 (0, 0))
  funs : RP w w0.heap.size (fun k => (k ≠ g ∧ k ≠ g2 ∧ k ≠ g5) ∧ some k ≠ v.ownBlock) U fs
  fun_ : RF w w0.heap.size (fun k => k ≠ g ∧ k ≠ g2 ∧ k ≠ g5) v f
namespace GS
variable {w0 w w1 : World} {g g2 g5 : Nat} {fu de fl : Int} {U v v1 : Value} {fs : List (List S26)} {f f1 : List S26} {l l1 : List UInt8}
theorem keep (h : GS w0 g g2 g5 fu de fl w U v fs f l) (hn : g ≠ g2 ∧ g ≠ g5) (hI : IsS71 w0 w1 g (bs l1)) (hB : Below w0.heap.size w0 w1) (hK : KeepBut w w1 g none) : GS w0 g g2 g5 fu de fl w1 U v fs f l1 :=
  ⟨hI, hB, (hK.2 g2 (blk_lt h.res) (Ne.symm hn.1) (by simp)).trans h.res, (hK.2 g5 (blk_lt h.prog) (Ne.symm hn.2) (by simp)).trans h.prog,
    Kd.R_step h.funs (fun k hk hlt => hK.2 k hlt hk.1.1 (by simp)), Kd.R_step h.fun_ (fun k hk hlt => hK.2 k hlt hk.1 (by simp))⟩
theorem new (h : GS w0 g g2 g5 fu de fl w U v fs f l) (hn : g ≠ g2 ∧ g ≠ g5) (o : Obj) : GS w0 g g2 g5 fu de fl (w.alloc o) U v fs f l :=
  h.keep hn (IsS71.alloc h.at_ o) (below_alloc h.below o) (keep_alloc (KeepBut.refl _ _ _) o)
theorem nil (h : GS w0 g g2 g5 fu de fl w U v fs f l) : GS w0 g g2 g5 fu de fl w U (.slice none 0 0) fs [] l :=
  ⟨h.at_, h.below, h.res, h.prog, Kd.R_mono h.funs (fun k hk => ⟨hk.1, by simp [Value.ownBlock]⟩), Kd.R_nil _ _ _ _ _⟩
/-- Behind an append to the function that is being read. -/
theorem app (h : GS w0 g g2 g5 fu de fl w U v fs f l) (hg : w.grownBy w1 v.ownBlock) (hat : v1.ownBlock = v.ownBlock ∨ ∃ b, v1.ownBlock = some b ∧ w.heap.size ≤ b) (hB : Below w0.heap.size w0 w1)
    (hR : RF w1 w0.heap.size (fun k => k ≠ g ∧ k ≠ g2 ∧ k ≠ g5) v1 f1) : GS w0 g g2 g5 fu de fl w1 U v1 fs f1 l := by
  have hne : ∀ k, v.ownBlock = some k → k ≠ g ∧ k ≠ g2 ∧ k ≠ g5 := h.fun_.1
  have hgl := blk_lt h.at_.1
  exact ⟨⟨(hg.block g hgl (fun he => (hne g he.symm).1 rfl)).trans h.at_.1, h.at_.2⟩, hB, (hg.block g2 (blk_lt h.res) (fun he => (hne g2 he.symm).2.1 rfl)).trans h.res, (hg.block g5 (blk_lt h.prog) (fun he => (hne g5 he.symm).2.2 rfl)).trans h.prog, Kd.R_after h.funs hg hat, hR⟩
theorem next {U1 : Value} {fs1 : List (List S26)} (h : GS w0 g g2 g5 fu de fl w U v fs f l) (hg : w.grownBy w1 U.ownBlock) (hB : Below w0.heap.size w0 w1) (hn : g ≠ g5 ∧ g2 ≠ g5 ∧ w0.heap.size ≤ g5)
    (hR : RP w1 w0.heap.size (fun k => k ≠ g ∧ k ≠ g2 ∧ k ≠ g5) U1 fs1) : GS w0 g g2 g5 fu de fl (w1.setCell ⟨g5, 0, none⟩ U1) U1 (.slice none 0 0) fs1 [] l := by
  have hne : ∀ k, U.ownBlock = some k → (k ≠ g ∧ k ≠ g2 ∧ k ≠ g5) := fun k hk => (h.funs.1 k hk).1
  have hgl := blk_lt h.at_.1
  exact ⟨⟨(Below.heap_setCell w1 ⟨g5, 0, none⟩ U1 g hn.1).trans ((hg.block g hgl (fun he => (hne g he.symm).1 rfl)).trans h.at_.1), h.at_.2⟩, hB.setCell hn.2.2 U1,
    (Below.heap_setCell w1 ⟨g5, 0, none⟩ U1 g2 hn.2.1).trans ((hg.block g2 (blk_lt h.res) (fun he => (hne g2 he.symm).2.1 rfl)).trans h.res),
    blk_put ((hg.block g5 (blk_lt h.prog) (fun he => (hne g5 he.symm).2.2 rfl)).trans h.prog) 0 U1 rfl,
    Kd.R_mono (Kd.R_far hR (fun k hk => hk.2.2) U1) (fun k hk => ⟨hk, by simp [Value.ownBlock]⟩), Kd.R_nil _ _ _ _ _⟩
theorem fresh (h : GS w0 g g2 g5 fu de fl w U v fs f l) : ∀ k, w.heap.size ≤ k → k ≠ g ∧ k ≠ g2 ∧ k ≠ g5 := by
  intro k hk
  have h1 := blk_lt h.at_.1
  have h2 := blk_lt h.res
  have h3 := blk_lt h.prog
  omega
end GS
/-- May the bytes be a program's? -/
def GetOk (l : List UInt8) : Prop := errOf (dec l) = 0 ∧ encB (dec l) = l
instance (l : List UInt8) : Decidable (GetOk l) := inferInstanceAs (Decidable (_ ∧ _))
def getP (l : List UInt8) : PG := if GetOk l then dec l else ⟨[], 0, 0, 0⟩
def getE (l : List UInt8) : Int := if GetOk l then 0 else 4
theorem getP_ok {l : List UInt8} (h : GetOk l) : getP l = dec l ∧ getE l = 0 := ⟨if_pos h, if_pos h⟩
theorem getP_no {l : List UInt8} (h : ¬ GetOk l) : getP l = ⟨[], 0, 0, 0⟩ ∧ getE l = 4 := ⟨if_neg h, if_neg h⟩
theorem tk_byte (l : List UInt8) : ∃ k : Nat, (tk 1 0 l).1 = (k : Int) ∧ k ≤ 255 := by
  have h := tk_small 1 0 l (by omega)
  have e : (0 + 1) * (256 : Int) ^ 1 = 256 := by decide
  rw [e] at h
  exact ⟨(tk 1 0 l).1.toNat, by omega, by omega⟩
theorem decFun_stop (k : Nat) (l : List UInt8) (h : k = 0 ∨ l = []) : decFun k l = ([], l) := by
  rcases h with rfl | rfl
  · rfl
  · cases k <;> rfl
theorem decFun_go (k : Nat) (b : UInt8) (l : List UInt8) : decFun (k + 1) (b :: l) = ((decIns (b :: l)).1 :: (decFun k (decIns (b :: l)).2).1, (decFun k (decIns (b :: l)).2).2) := rfl
theorem decFuns_stop (k : Nat) (l : List UInt8) (h : k = 0 ∨ l = []) : (decFuns k l).1 = [] := by
  rcases h with rfl | rfl
  · rfl
  · cases k <;> rfl
theorem decFuns_go (k : Nat) (b : UInt8) (l : List UInt8) : (decFuns (k + 1) (b :: l)).1 =
    (decFun (tk 1 0 (b :: l)).1.toNat (tk 1 0 (b :: l)).2).1 :: (decFuns k (decFun (tk 1 0 (b :: l)).1.toNat (tk 1 0 (b :: l)).2).2).1 := rfl
theorem bs_nil (l : List UInt8) (h : l = []) : ((bs l).toList == ([] : List UInt8)) = true ∧ ((bs l).toList != ([] : List UInt8)) = false := by
  rw [bs_toList, h]
  exact ⟨rfl, rfl⟩
theorem bs_cons (l : List UInt8) (h : l ≠ []) : ((bs l).toList == ([] : List UInt8)) = false ∧ ((bs l).toList != ([] : List UInt8)) = true := by
  rw [bs_toList]
  exact ⟨beq_eq_false_iff_ne.mpr h, bne_iff_ne.mpr h⟩
theorem enc_str {q : PG} {l : List UInt8} (h : encB q = l) : strOfNums (putB q) = bs l := by
  rw [← h]
  rfl
theorem str_enc (q : PG) : strOfNums (putB q) = bs (encB q) := rfl
theorem bs_ne {a b : List UInt8} (h : a ≠ b) : bs a ≠ bs b := fun he => h (by have := congrArg ByteArray.toList he; rwa [bs_toList, bs_toList] at this)
theorem str_eq {a b : ByteArray} (h : a.toList = b.toList) : a = b := by
  rw [Lib.toList_data, Lib.toList_data] at h
  exact ByteArray.ext (Array.toList_inj.1 h)
theorem pred_num {k : Nat} (h : 0 < k) : Value.int .i64 ((k : Int) - 1) = Value.int .i64 ((k - 1 : Nat) : Int) := by
  rw [show ((k - 1 : Nat) : Int) = (k : Int) - 1 by omega]
theorem pred_meas {k : Nat} (h : 0 < k) : (intOf (.int .i64 ((k : Int) - 1))).toNat < (intOf (.int .i64 (k : Int))).toNat := by
  simp only [intOf]
  omega
theorem len_lt (n : Nat) (h : n ≤ 255) (b : Nat) (hb : b ≤ 32) : (n + 1) * b ≤ 140737488355328 := by
  have : (n + 1) * b ≤ 256 * 32 := Nat.mul_le_mul (by omega) hb
  omega



set_option maxHeartbeats 2000000 in
theorem Get_calls (l : List UInt8) (w : World) :
    Calls Try.prog 19 #[.string (bs l)] w fun e w' => ∃ U, e = .returned (.tuple #[.agg #[U, .int .i64 (getP l).fu, .int .i64 (getP l).de, .int .i64 (getP l).fl], .int .i64 (getE l)]) ∧ RP w' w.heap.size (fun _ => True) U (getP l).fs ∧ Below w.heap.size w w' := by
  have S2 := Aside0.mk (blk_alloc (heap_alloc_new w (.cells #[.slice none 0 0, .int .i64 0, .int .i64 0, .int .i64 0] 33)) (.cells #[.string (bs l)] 71))
  have HB := Aside0.mk (below_two (Below.refl w.heap.size w) (Nat.le_refl _) (.cells #[.slice none 0 0, .int .i64 0, .int .i64 0, .int .i64 0] 33) (.cells #[.string (bs l)] 71))
  have HI := Aside0.mk (IsS71.new w (w.alloc (.cells #[.slice none 0 0, .int .i64 0, .int .i64 0, .int .i64 0] 33)) (bs l) (below_alloc (Below.refl _ _) _))
  rw [World.size_alloc] at HI
  go_enter Try.func19, Try.ntmps19
  go_wp2_with (fail)
  revert S2 HB HI
  generalize (w.alloc (.cells #[.slice none 0 0, .int .i64 0, .int .i64 0, .int .i64 0] 33)).alloc (.cells #[.string (bs l)] 71) = w1
  intro S2 HB HI
  obtain ⟨g, hg⟩ : ∃ g, w.heap.size + 1 = g := ⟨_, rfl⟩
  rw [hg] at HI
  rw [hg]
  have hgg : w.heap.size < g := by omega
  clear hg
  refine (take_calls 3 (by omega) l g w w1 HI.out HB.out).mono ?_
  rintro e w2 ⟨rfl, hI2, hB2, hK2⟩
  have S22 := Aside0.mk ((hK2.2 w.heap.size (blk_lt S2.out) (Nat.ne_of_lt hgg) (by simp)).trans S2.out)
  clear S2 HB HI hK2
  obtain ⟨l1, e1⟩ : ∃ x, (tk 3 0 l).2 = x := ⟨_, rfl⟩
  rw [e1] at hI2
  have HI2 := Aside0.mk hI2
  have HB2 := Aside0.mk hB2
  have E1 := Aside0.mk e1
  clear hI2 hB2 e1
  go_wp2_with (fail)
  refine (take_calls 1 (by omega) l1 g w w2 HI2.out HB2.out).mono ?_
  rintro e w3 ⟨rfl, hI3, hB3, hK3⟩
  have S23 := Aside0.mk ((hK3.2 w.heap.size (blk_lt S22.out) (Nat.ne_of_lt hgg) (by simp)).trans S22.out)
  clear S22 HB2 HI2 hK3
  obtain ⟨l2, e2⟩ : ∃ x, (tk 1 0 l1).2 = x := ⟨_, rfl⟩
  obtain ⟨fu, e3⟩ : ∃ x, (tk 1 0 l1).1 = x := ⟨_, rfl⟩
  rw [e2] at hI3
  rw [e3]
  have HI3 := Aside0.mk hI3
  have HB3 := Aside0.mk hB3
  have E2 := Aside0.mk e2
  have E3 := Aside0.mk e3
  clear hI3 hB3 e2 e3
  go_wp2_with (fail)
  refine (take_calls 1 (by omega) l2 g w w3 HI3.out HB3.out).mono ?_
  rintro e w4 ⟨rfl, hI4, hB4, hK4⟩
  have S24 := Aside0.mk ((hK4.2 w.heap.size (blk_lt S23.out) (Nat.ne_of_lt hgg) (by simp)).trans S23.out)
  clear S23 HB3 HI3 hK4
  obtain ⟨l3, e4⟩ : ∃ x, (tk 1 0 l2).2 = x := ⟨_, rfl⟩
  obtain ⟨de, e5⟩ : ∃ x, (tk 1 0 l2).1 = x := ⟨_, rfl⟩
  rw [e4] at hI4
  rw [e5]
  have HI4 := Aside0.mk hI4
  have HB4 := Aside0.mk hB4
  have E4 := Aside0.mk e4
  have E5 := Aside0.mk e5
  clear hI4 hB4 e4 e5
  go_wp2_with (fail)
  refine (take_calls 2 (by omega) l3 g w w4 HI4.out HB4.out).mono ?_
  rintro e w5 ⟨rfl, hI5, hB5, hK5⟩
  have S25 := Aside0.mk ((hK5.2 w.heap.size (blk_lt S24.out) (Nat.ne_of_lt hgg) (by simp)).trans S24.out)
  clear S24 HB4 HI4 hK5
  obtain ⟨l4, e6⟩ : ∃ x, (tk 2 0 l3).2 = x := ⟨_, rfl⟩
  obtain ⟨fl, e7⟩ : ∃ x, (tk 2 0 l3).1 = x := ⟨_, rfl⟩
  rw [e6] at hI5
  rw [e7]
  have HI5 := Aside0.mk hI5
  have HB5 := Aside0.mk hB5
  have E6 := Aside0.mk e6
  have E7 := Aside0.mk e7
  clear hI5 hB5 e6 e7
  go_wp2_with (fail)
  have P0 : GS w g w.heap.size w5.heap.size fu de fl (w5.alloc (.cells #[.slice none 0 0, .int .i64 fu, .int .i64 de, .int .i64 fl] 33)) (.slice none 0 0) (.slice none 0 0) [] [] l4 :=
    ⟨IsS71.alloc HI5.out _, below_alloc HB5.out _, blk_alloc S25.out _, heap_alloc_new _ _, Kd.R_nil _ _ _ _ _, Kd.R_nil _ _ _ _ _⟩
  replace P0 := Aside0.mk P0
  have hgb : g ≠ w.heap.size ∧ g ≠ w5.heap.size ∧ w.heap.size < w5.heap.size := by
    have h1 := blk_lt HI5.out.1
    have h2 := blk_lt S25.out
    omega
  revert P0 hgb
  generalize w5.alloc (.cells #[.slice none 0 0, .int .i64 fu, .int .i64 de, .int .i64 fl] 33) = w6
  generalize w5.heap.size = g5
  intro P0 hgb
  have HGB := Aside0.mk hgb
  clear S25 HI5 HB5 hgb hgg
  refine (take_calls 1 (by omega) l4 g w w6 P0.out.at_ P0.out.below).mono ?_
  rintro e w7 ⟨rfl, hI7, hB7, hK7⟩
  have P7 := Aside0.mk (P0.out.keep ⟨HGB.out.1, HGB.out.2.1⟩ hI7 hB7 hK7)
  clear P0 hI7 hB7 hK7
  obtain ⟨N, hN, hN5⟩ := tk_byte l4
  obtain ⟨l5, e8⟩ : ∃ x, (tk 1 0 l4).2 = x := ⟨_, rfl⟩
  obtain ⟨FS, hFS⟩ : ∃ x, (decFuns N l5).1 = x := ⟨_, rfl⟩
  have HDEC := Aside0.mk (show dec l = ⟨FS, fu, de, fl⟩ by
    unfold dec
    simp only [E1.out, E2.out, E3.out, E4.out, E5.out, E6.out, E7.out, e8, hN, Int.toNat_natCast, hFS])
  rw [e8] at P7
  rw [hN]
  have HFS := Aside0.mk hFS
  have HN5 := Aside0.mk hN5
  clear e8 hN hFS hN5 E1 E2 E3 E4 E5 E6 E7
  go_wp2_with (fail)
  go_loopw [6] (fun u6 w' => ∃ (k : Nat) (U : Value) (fs : List (List S26)) (l6 : List UInt8), u6 = .int .i64 k ∧ fs.length + k ≤ 255 ∧ Aside0 (fs ++ (decFuns k l6).1 = FS) ∧ Aside0 (GS w g w.heap.size g5 fu de fl w' U (.slice none 0 0) fs [] l6)) (fun u6 _ => (intOf u6).toNat)
  case atStart => exact ⟨N, _, [], l5, rfl, by have := HN5.out; simpa using this, ⟨HFS.out⟩, P7⟩
  case round =>
    obtain ⟨k, U, fs, l6, rfl, hk, HK, HP⟩ := hrel
    have hc0 := cellS71_0 HP.out.at_.1
    by_cases hk0 : k = 0
    · subst hk0
      have HEQ := Aside0.mk (show fs = FS by have h := HK.out; rw [decFuns_stop 0 l6 (.inl rfl), List.append_nil] at h; exact h)
      clear HK
      obtain ⟨A9, c9, h9⟩ := Kd.R_slice HP.out.funs
      subst h9
      obtain ⟨p0, p1, p2, p3⟩ := ps_reads HP.out.prog
      go_wp2_with (fail)
      refine (Put_calls ⟨fs, fu, de, fl⟩ A9 c9 _ (Kd.R_reads' HP.out.funs).2.2).mono ?_
      rintro e w9 ⟨rfl, hb9⟩
      have S9 := Aside0.mk (blk_below HP.out.res hb9)
      have G9 := Aside0.mk (blk_below HP.out.prog hb9)
      have R9 := Aside0.mk (Kd.R_below HP.out.funs hb9)
      have HB9 := Aside0.mk (below_step HP.out.below hb9)
      have HD := Aside0.mk (show dec l = ⟨fs, fu, de, fl⟩ by rw [HDEC.out, HEQ.out])
      clear p0 p1 p2 p3 hb9 HP hc0
      obtain ⟨p0, p1, p2, p3⟩ := ps_reads G9.out
      obtain ⟨_, q0, q1, q2, q3⟩ := row4' S9.out
      by_cases h0 : errOf ⟨fs, fu, de, fl⟩ = 0
      · rw [if_pos h0, h0, str_enc]
        by_cases hs : encB ⟨fs, fu, de, fl⟩ = l
        · rw [hs]
          have OK := Aside0.mk (getP_ok (l := l) ⟨by rw [HD.out]; exact h0, by rw [HD.out]; exact hs⟩)
          clear h0 hs
          have hse : ((bs l).toList != (bs l).toList) = false := bne_self_eq_false _
          go_wp2_with (fail)
          have SX := Aside0.mk (blk_put (blk_put (blk_put (blk_put S9.out 0 (.slice A9 fs.length c9) rfl) 1 (.int .i64 fu) rfl) 2 (.int .i64 de) rfl) 3 (.int .i64 fl) (cs' := #[.slice A9 fs.length c9, .int .i64 fu, .int .i64 de, .int .i64 fl]) rfl)
          refine bodyPost_ret (results_ct rfl _ _ w.heap.size 33 #[.slice A9 fs.length c9, .int .i64 fu, .int .i64 de, .int .i64 fl] (0, 0) _ rfl SX.out Try.underlying33 rfl info33) rfl ?_
          rw [OK.out.1, OK.out.2, HD.out]
          exact ⟨_, rfl, Kd.R_mono (Kd.R_far (Kd.R_far (Kd.R_far (Kd.R_far R9.out (fun k hk => hk.1.2.1) _) (fun k hk => hk.1.2.1) _) (fun k hk => hk.1.2.1) _) (fun k hk => hk.1.2.1) _) (fun _ _ => trivial), (((HB9.out.setCell (Nat.le_refl _) _).setCell (Nat.le_refl _) _).setCell (Nat.le_refl _) _).setCell (Nat.le_refl _) _⟩
        · have NO := Aside0.mk (getP_no (l := l) (fun h => hs (by have := h.2; rwa [HD.out] at this)))
          have hne := bs_ne hs
          obtain ⟨s, hse⟩ : ∃ s, bs (encB ⟨fs, fu, de, fl⟩) = s := ⟨_, rfl⟩
          rw [hse] at hne
          rw [hse]
          have hsn : (s.toList == (bs l).toList) = false := beq_eq_false_iff_ne.mpr (fun he => hne (str_eq he))
          clear h0 hs hse hne
          go_wp2_with (fail)
          have SX := Aside0.mk (blk_put (blk_put (blk_put (blk_put S9.out 0 (.slice none 0 0) rfl) 1 (.int .i64 0) rfl) 2 (.int .i64 0) rfl) 3 (.int .i64 0) (cs' := #[.slice none 0 0, .int .i64 0, .int .i64 0, .int .i64 0]) rfl)
          refine bodyPost_ret (results_ct rfl _ _ w.heap.size 33 #[.slice none 0 0, .int .i64 0, .int .i64 0, .int .i64 0] (0, 0) _ rfl SX.out Try.underlying33 rfl info33) rfl ?_
          rw [NO.out.1, NO.out.2]
          exact ⟨_, rfl, Kd.R_nil _ _ _ _ _, (((HB9.out.setCell (Nat.le_refl _) _).setCell (Nat.le_refl _) _).setCell (Nat.le_refl _) _).setCell (Nat.le_refl _) _⟩
      · have NO := Aside0.mk (getP_no (l := l) (fun h => h0 (by have := h.1; rwa [HD.out] at this)))
        rw [if_neg h0]
        obtain ⟨er, her⟩ : ∃ er, errOf ⟨fs, fu, de, fl⟩ = er := ⟨_, rfl⟩
        rw [her] at h0
        rw [her]
        have t0 : (er != 0) = true := bne_iff_ne.mpr h0
        clear h0 her
        go_wp2_with (fail)
        have SX := Aside0.mk (blk_put (blk_put (blk_put (blk_put S9.out 0 (.slice none 0 0) rfl) 1 (.int .i64 0) rfl) 2 (.int .i64 0) rfl) 3 (.int .i64 0) (cs' := #[.slice none 0 0, .int .i64 0, .int .i64 0, .int .i64 0]) rfl)
        refine bodyPost_ret (results_ct rfl _ _ w.heap.size 33 #[.slice none 0 0, .int .i64 0, .int .i64 0, .int .i64 0] (0, 0) _ rfl SX.out Try.underlying33 rfl info33) rfl ?_
        rw [NO.out.1, NO.out.2]
        exact ⟨_, rfl, Kd.R_nil _ _ _ _ _, (((HB9.out.setCell (Nat.le_refl _) _).setCell (Nat.le_refl _) _).setCell (Nat.le_refl _) _).setCell (Nat.le_refl _) _⟩
    by_cases hl0 : l6 = []
    · have HEQ := Aside0.mk (show fs = FS by have h := HK.out; rw [decFuns_stop k l6 (.inr hl0), List.append_nil] at h; exact h)
      obtain ⟨t5, t6⟩ := bs_nil l6 hl0
      have hkp : 0 < k := Nat.pos_of_ne_zero hk0
      clear HK hl0 hk0
      obtain ⟨A9, c9, h9⟩ := Kd.R_slice HP.out.funs
      subst h9
      obtain ⟨p0, p1, p2, p3⟩ := ps_reads HP.out.prog
      go_wp2_with (fail)
      refine (Put_calls ⟨fs, fu, de, fl⟩ A9 c9 _ (Kd.R_reads' HP.out.funs).2.2).mono ?_
      rintro e w9 ⟨rfl, hb9⟩
      have S9 := Aside0.mk (blk_below HP.out.res hb9)
      have G9 := Aside0.mk (blk_below HP.out.prog hb9)
      have R9 := Aside0.mk (Kd.R_below HP.out.funs hb9)
      have HB9 := Aside0.mk (below_step HP.out.below hb9)
      have HD := Aside0.mk (show dec l = ⟨fs, fu, de, fl⟩ by rw [HDEC.out, HEQ.out])
      clear p0 p1 p2 p3 hb9 HP hc0
      obtain ⟨p0, p1, p2, p3⟩ := ps_reads G9.out
      obtain ⟨_, q0, q1, q2, q3⟩ := row4' S9.out
      by_cases h0 : errOf ⟨fs, fu, de, fl⟩ = 0
      · rw [if_pos h0, h0, str_enc]
        by_cases hs : encB ⟨fs, fu, de, fl⟩ = l
        · rw [hs]
          have OK := Aside0.mk (getP_ok (l := l) ⟨by rw [HD.out]; exact h0, by rw [HD.out]; exact hs⟩)
          clear h0 hs
          have hse : ((bs l).toList != (bs l).toList) = false := bne_self_eq_false _
          go_wp2_with (fail)
          have SX := Aside0.mk (blk_put (blk_put (blk_put (blk_put S9.out 0 (.slice A9 fs.length c9) rfl) 1 (.int .i64 fu) rfl) 2 (.int .i64 de) rfl) 3 (.int .i64 fl) (cs' := #[.slice A9 fs.length c9, .int .i64 fu, .int .i64 de, .int .i64 fl]) rfl)
          refine bodyPost_ret (results_ct rfl _ _ w.heap.size 33 #[.slice A9 fs.length c9, .int .i64 fu, .int .i64 de, .int .i64 fl] (0, 0) _ rfl SX.out Try.underlying33 rfl info33) rfl ?_
          rw [OK.out.1, OK.out.2, HD.out]
          exact ⟨_, rfl, Kd.R_mono (Kd.R_far (Kd.R_far (Kd.R_far (Kd.R_far R9.out (fun k hk => hk.1.2.1) _) (fun k hk => hk.1.2.1) _) (fun k hk => hk.1.2.1) _) (fun k hk => hk.1.2.1) _) (fun _ _ => trivial), (((HB9.out.setCell (Nat.le_refl _) _).setCell (Nat.le_refl _) _).setCell (Nat.le_refl _) _).setCell (Nat.le_refl _) _⟩
        · have NO := Aside0.mk (getP_no (l := l) (fun h => hs (by have := h.2; rwa [HD.out] at this)))
          have hne := bs_ne hs
          obtain ⟨s, hse⟩ : ∃ s, bs (encB ⟨fs, fu, de, fl⟩) = s := ⟨_, rfl⟩
          rw [hse] at hne
          rw [hse]
          have hsn : (s.toList == (bs l).toList) = false := beq_eq_false_iff_ne.mpr (fun he => hne (str_eq he))
          clear h0 hs hse hne
          go_wp2_with (fail)
          have SX := Aside0.mk (blk_put (blk_put (blk_put (blk_put S9.out 0 (.slice none 0 0) rfl) 1 (.int .i64 0) rfl) 2 (.int .i64 0) rfl) 3 (.int .i64 0) (cs' := #[.slice none 0 0, .int .i64 0, .int .i64 0, .int .i64 0]) rfl)
          refine bodyPost_ret (results_ct rfl _ _ w.heap.size 33 #[.slice none 0 0, .int .i64 0, .int .i64 0, .int .i64 0] (0, 0) _ rfl SX.out Try.underlying33 rfl info33) rfl ?_
          rw [NO.out.1, NO.out.2]
          exact ⟨_, rfl, Kd.R_nil _ _ _ _ _, (((HB9.out.setCell (Nat.le_refl _) _).setCell (Nat.le_refl _) _).setCell (Nat.le_refl _) _).setCell (Nat.le_refl _) _⟩
      · have NO := Aside0.mk (getP_no (l := l) (fun h => h0 (by have := h.1; rwa [HD.out] at this)))
        rw [if_neg h0]
        obtain ⟨er, her⟩ : ∃ er, errOf ⟨fs, fu, de, fl⟩ = er := ⟨_, rfl⟩
        rw [her] at h0
        rw [her]
        have t0 : (er != 0) = true := bne_iff_ne.mpr h0
        clear h0 her
        go_wp2_with (fail)
        have SX := Aside0.mk (blk_put (blk_put (blk_put (blk_put S9.out 0 (.slice none 0 0) rfl) 1 (.int .i64 0) rfl) 2 (.int .i64 0) rfl) 3 (.int .i64 0) (cs' := #[.slice none 0 0, .int .i64 0, .int .i64 0, .int .i64 0]) rfl)
        refine bodyPost_ret (results_ct rfl _ _ w.heap.size 33 #[.slice none 0 0, .int .i64 0, .int .i64 0, .int .i64 0] (0, 0) _ rfl SX.out Try.underlying33 rfl info33) rfl ?_
        rw [NO.out.1, NO.out.2]
        exact ⟨_, rfl, Kd.R_nil _ _ _ _ _, (((HB9.out.setCell (Nat.le_refl _) _).setCell (Nat.le_refl _) _).setCell (Nat.le_refl _) _).setCell (Nat.le_refl _) _⟩
    obtain ⟨t5, t6⟩ := bs_cons l6 hl0
    have hkp : 0 < k := Nat.pos_of_ne_zero hk0
    obtain ⟨b, l7, hl7⟩ : ∃ b l7, l6 = b :: l7 := by
      cases l6 with
      | nil => exact absurd rfl hl0
      | cons b l7 => exact ⟨b, l7, rfl⟩
    have HL7 := Aside0.mk hl7
    clear hl0 hk0 hl7
    go_wp2_with (fail)
    refine (take_calls 1 (by omega) l6 g w _ HP.out.at_ HP.out.below).mono ?_
    rintro e w8 ⟨rfl, hI8, hB8, hK8⟩
    have P8 := Aside0.mk (HP.out.keep ⟨HGB.out.1, HGB.out.2.1⟩ hI8 hB8 hK8)
    clear HP hI8 hB8 hK8 hc0 t5 t6
    obtain ⟨M, hM, hM5⟩ := tk_byte l6
    obtain ⟨l8, hl8⟩ : ∃ x, (tk 1 0 l6).2 = x := ⟨_, rfl⟩
    rw [hl8] at P8
    rw [hM]
    obtain ⟨F, hF⟩ : ∃ x, (decFun M l8).1 = x := ⟨_, rfl⟩
    obtain ⟨L, hL⟩ : ∃ x, (decFun M l8).2 = x := ⟨_, rfl⟩
    have HST := Aside0.mk (show fs ++ [F] ++ (decFuns (k - 1) L).1 = FS by
      obtain ⟨m, rfl⟩ : ∃ m, k = m + 1 := ⟨k - 1, by omega⟩
      have h := HK.out
      rw [HL7.out, decFuns_go, ← HL7.out, hM, hl8, Int.toNat_natCast, hF, hL] at h
      rw [List.append_assoc]
      exact h)
    have HF := Aside0.mk hF
    have HL := Aside0.mk hL
    have HM5 := Aside0.mk hM5
    clear hM hl8 hF hL hM5 HK HL7
    go_wp2_with (fail)
    go_loopw [7, 8] (fun u7 u8 w' => ∃ (j : Nat) (f : List S26) (l9 : List UInt8), u8 = .int .i64 j ∧ f.length + j ≤ 255 ∧ Aside0 (f ++ (decFun j l9).1 = F ∧ (decFun j l9).2 = L) ∧ Aside0 (GS w g w.heap.size g5 fu de fl w' U u7 fs f l9)) (fun _ u8 _ => (intOf u8).toNat)
    case atStart => exact ⟨M, [], l8, rfl, by have := HM5.out; simpa using this, ⟨HF.out, HL.out⟩, P8⟩
    case round =>
      obtain ⟨j, f, l9, rfl, hj, HJ, HQ⟩ := hrel
      clear P8
      have hc0 := cellS71_0 HQ.out.at_.1
      by_cases hj0 : j = 0
      · subst hj0
        have HEQ := Aside0.mk (show f = F ∧ l9 = L by have h := HJ.out; rw [decFun_stop 0 l9 (.inl rfl), List.append_nil] at h; exact h)
        clear HJ
        obtain ⟨A8, c8, h8⟩ := Kd.R_slice HQ.out.fun_
        subst h8
        obtain ⟨p0, p1, p2, p3⟩ := ps_reads HQ.out.prog
        go_wp2_with (at_builtin; refine Kd.R_append (Kd.slice 26 k26) (w0 := w) w.heap.size rfl (.tmp 55) (.tmp 57) 31 38 (.slice none 0 0) 24 rfl Try.underlying31 info38z rfl (by decide) (by decide) U fs f [.slice A8 f.length c8] (fun k => k ≠ g ∧ k ≠ w.heap.size ∧ k ≠ g5) (fun k => (k ≠ g ∧ k ≠ w.heap.size ∧ k ≠ g5) ∧ some k ≠ U.ownBlock) rfl rfl ⟨_, rfl, Kd.R_apartR HQ.out.fun_ HQ.out.funs (by decide)⟩ (fun _ hk => hk) (HQ.out.fresh) (Kd.R_drop HQ.out.funs) HQ.out.below HQ.out.below.size (len_lt _ (by omega) _ (by omega)) ?_; intro U2 w10 ho10 hb10 hg10 _; have S10 := (hg10.block g5 (blk_lt HQ.out.prog) (fun he => (HQ.out.funs.1 g5 he.symm).1.2.2 rfl)).trans HQ.out.prog; clear p0 p1 p2 p3; obtain ⟨p0, p1, p2, p3⟩ := ps_reads S10; have q0 : w10.frozen? ⟨g5, 0, none⟩ = false := blk_frozen S10 0; obtain ⟨A10, c10, h10⟩ := Kd.R_slice ho10; obtain ⟨n10, hn10⟩ : ∃ n10, (fs ++ [f]).length = n10 := ⟨_, rfl⟩; rw [hn10] at h10; subst h10; have HN := Aside0.mk (HQ.out.next hg10 hb10 ⟨HGB.out.2.1, Nat.ne_of_lt HGB.out.2.2, Nat.le_of_lt HGB.out.2.2⟩ ho10); clear hn10 ho10 hb10 hg10 S10)
        go_roundw
        case rel => exact ⟨k - 1, _, fs ++ [f], l9, pred_num hkp, by rw [List.length_append, List.length_singleton]; omega, ⟨by rw [HEQ.out.1, HEQ.out.2]; exact HST.out⟩, HN⟩
        case measure => exact pred_meas hkp
      by_cases hl0 : l9 = []
      · have HEQ := Aside0.mk (show f = F ∧ l9 = L by have h := HJ.out; rw [decFun_stop j l9 (.inr hl0), List.append_nil] at h; exact h)
        obtain ⟨t5, t6⟩ := bs_nil l9 hl0
        have hjp : 0 < j := Nat.pos_of_ne_zero hj0
        clear HJ hl0 hj0
        obtain ⟨A8, c8, h8⟩ := Kd.R_slice HQ.out.fun_
        subst h8
        obtain ⟨p0, p1, p2, p3⟩ := ps_reads HQ.out.prog
        go_wp2_with (at_builtin; refine Kd.R_append (Kd.slice 26 k26) (w0 := w) w.heap.size rfl (.tmp 55) (.tmp 57) 31 38 (.slice none 0 0) 24 rfl Try.underlying31 info38z rfl (by decide) (by decide) U fs f [.slice A8 f.length c8] (fun k => k ≠ g ∧ k ≠ w.heap.size ∧ k ≠ g5) (fun k => (k ≠ g ∧ k ≠ w.heap.size ∧ k ≠ g5) ∧ some k ≠ U.ownBlock) rfl rfl ⟨_, rfl, Kd.R_apartR HQ.out.fun_ HQ.out.funs (by decide)⟩ (fun _ hk => hk) (HQ.out.fresh) (Kd.R_drop HQ.out.funs) HQ.out.below HQ.out.below.size (len_lt _ (by omega) _ (by omega)) ?_; intro U2 w10 ho10 hb10 hg10 _; have S10 := (hg10.block g5 (blk_lt HQ.out.prog) (fun he => (HQ.out.funs.1 g5 he.symm).1.2.2 rfl)).trans HQ.out.prog; clear p0 p1 p2 p3; obtain ⟨p0, p1, p2, p3⟩ := ps_reads S10; have q0 : w10.frozen? ⟨g5, 0, none⟩ = false := blk_frozen S10 0; obtain ⟨A10, c10, h10⟩ := Kd.R_slice ho10; obtain ⟨n10, hn10⟩ : ∃ n10, (fs ++ [f]).length = n10 := ⟨_, rfl⟩; rw [hn10] at h10; subst h10; have HN := Aside0.mk (HQ.out.next hg10 hb10 ⟨HGB.out.2.1, Nat.ne_of_lt HGB.out.2.2, Nat.le_of_lt HGB.out.2.2⟩ ho10); clear hn10 ho10 hb10 hg10 S10)
        go_roundw
        case rel => exact ⟨k - 1, _, fs ++ [f], l9, pred_num hkp, by rw [List.length_append, List.length_singleton]; omega, ⟨by rw [HEQ.out.1, HEQ.out.2]; exact HST.out⟩, HN⟩
        case measure => exact pred_meas hkp
      obtain ⟨t5, t6⟩ := bs_cons l9 hl0
      have hjp : 0 < j := Nat.pos_of_ne_zero hj0
      obtain ⟨b', l10, hl10⟩ : ∃ b l7, l9 = b :: l7 := by
        cases l9 with
        | nil => exact absurd rfl hl0
        | cons b l7 => exact ⟨b, l7, rfl⟩
      have HL10 := Aside0.mk hl10
      clear hl0 hj0 hl10
      go_wp2_with (fail)
      refine (rins_calls l9 g w _ HQ.out.at_ HQ.out.below).mono ?_
      rintro e w9 ⟨rfl, hI9, hB9, hK9⟩
      have P9 := Aside0.mk (HQ.out.keep ⟨HGB.out.1, HGB.out.2.1⟩ hI9 hB9 hK9)
      clear HQ hI9 hB9 hK9 hc0 t5 t6
      obtain ⟨x, hx⟩ : ∃ x, (decIns l9).1 = x := ⟨_, rfl⟩
      obtain ⟨l11, hl11⟩ : ∃ x, (decIns l9).2 = x := ⟨_, rfl⟩
      rw [hl11] at P9
      rw [hx]
      have HJ2 := Aside0.mk (show f ++ [x] ++ (decFun (j - 1) l11).1 = F ∧ (decFun (j - 1) l11).2 = L by
        obtain ⟨m, rfl⟩ : ∃ m, j = m + 1 := ⟨j - 1, by omega⟩
        have h := HJ.out
        rw [HL10.out, decFun_go, ← HL10.out, hx, hl11] at h
        rw [List.append_assoc]
        exact h)
      clear HJ hx hl11
      go_wp2_with (at_builtin; refine Kd.R_append k26 (w0 := w) w.heap.size rfl (.tmp 49) (.tmp 52) 38 26 (.agg #[.int .i64 0, .int .i64 0, .int .i64 0, .int .i64 0]) 32 rfl Try.underlying38 info26z rfl (by decide) (by decide) u7 f x _ (fun k => k ≠ g ∧ k ≠ w.heap.size ∧ k ≠ g5) (fun _ => False) rfl rfl (k26_mkM _ _ _ x) (fun _ hk => hk.elim) (P9.out.fresh) P9.out.fun_ P9.out.below P9.out.below.size (len_lt _ (by omega) _ (by omega)) ?_; intro v9 w11 ho9 hb9 hg9 ha9; have HF9 := Aside0.mk (P9.out.app hg9 ha9 hb9 ho9); clear ho9 hb9 hg9 ha9)
      go_roundw
      case rel => exact ⟨j - 1, f ++ [x], l11, pred_num hjp, by rw [List.length_append, List.length_singleton]; omega, HJ2, HF9⟩
      case measure => exact pred_meas hjp
end Go.Proofs.Ytmofaahhnokohaa.Code
