/- lex.All by bytes, and its walk. -/
import Derived.Test.YthnmaaoafogbiaaLex4
import Derived.Lib.OthersKept
import Derived.Laws.RangeAny
import Derived.WalkSmall
namespace Go.Proofs.Ythnmaaoafogbiaa.Lex
set_option linter.unusedSimpArgs false
set_option linter.unusedVariables false
open Go.RowKit Go.Proofs.YthnmaaoafogbiaaW.PrintWords Go.Proofs.YthnmaaoafogbiaaW.PrintLast Go.Proofs.YthnmaaoafogbiaaW.PrintMore PLexAll Go.Proofs.YthnmaaoafogbiaaW.Canon
attribute [local go_sem] max2_mx min2_mn max_two min_two max_three min_three max_four min_four

/-- One byte. -/
def byteT (c : UInt8) (x : TX) : TX := if c.toNat = 10 then closeT x else if x.rem = true then x else plainI c.toNat x
/-- The rest of a text: the line that is bad, or the text at its end. -/
def goT : List UInt8 → TX → Int ⊕ TX
  | [], x => if (closeT x).bad = true then .inl (closeT x).line else .inr (closeT x)
  | c :: l, x => if (byteT c x).bad = true then .inl (byteT c x).line else goT l (if c.toNat = 10 then { byteT c x with line := (byteT c x).line + 1 } else byteT c x)
def x0 : TX := ⟨[], 1, 0, [], false, false, false⟩

theorem decode_high2 (s : ByteArray) (pos : Nat) (h : pos < s.size) (ha : 128 ≤ (s[pos]'h).toNat) : ∀ j, j < (Utf8.decode s pos).2 → pos + j < s.size ∧ 128 ≤ (s.get! (pos + j)).toNat := by
  have hn : ¬ (s[pos]'h).toNat < 128 := by omega
  have h0 : s.get! (pos + 0) = s[pos]'h := get_at s pos h
  intro j
  simp only [Utf8.decode, get_at s pos h, hn, if_false]
  repeat' split
  all_goals (intro hj; simp only [] at hj)
  all_goals (simp only [Bool.and_eq_true, decide_eq_true_eq, beq_iff_eq] at *)
  all_goals (obtain rfl | rfl | rfl | rfl : j = 0 ∨ j = 1 ∨ j = 2 ∨ j = 3 := by omega)
  all_goals first
    | omega
    | exact ⟨by omega, by rw [h0]; exact ha⟩
    | exact ⟨by omega, by omega⟩
/-- In a comment a byte but a line's end does nothing. -/
theorem goT_rem (l : List UInt8) (x : TX) (hb : x.bad = false) (hr : x.rem = true) : ∀ n, n ≤ l.length → (∀ j (h : j < l.length), j < n → 128 ≤ (l[j]'h).toNat) → goT l x = goT (l.drop n) x := by
  induction l with
  | nil => intro n _ _; simp
  | cons c l ih =>
    intro n hn h
    cases n with
    | zero => rfl
    | succ n =>
      have hc : 128 ≤ c.toNat := h 0 (by simp) (by omega)
      have h1 : byteT c x = x := by rw [byteT, if_neg (by omega), if_pos hr]
      rw [goT, h1, if_neg (by rw [hb]; decide), if_neg (by omega)]
      exact ih n (by simpa using hn) (fun j hj hlt => h (j + 1) (by simpa using hj) (by omega))
theorem moreT_facts (k : Int) (c : UInt8) (x : TX) : (moreT k c x).line = x.line ∧ (moreT k c x).l = x.l ∧ (moreT k c x).s.length = x.s.length + 1 := by
  unfold moreT
  split <;> simp
theorem endT_facts (x : TX) : (endT x).line = x.line ∧ (endT x).s.length ≤ x.s.length := by
  unfold endT
  split
  · simp
  · split <;> simp
theorem shutL_len (n : Int) (l : List S31) : (shutL n l).length ≤ l.length + 1 := by
  unfold shutL
  split <;> simp
theorem closeT_facts (x : TX) : (closeT x).line = x.line ∧ (closeT x).s.length ≤ x.s.length ∧ (closeT x).l.length ≤ x.l.length + 2 := by
  have h1 := endT_facts x
  have h2 := endT_len x
  have h3 := shutL_len (endT x).line (endT x).l
  refine ⟨h1.1, h1.2, ?_⟩
  show (shutL (endT x).line (endT x).l).length ≤ _
  omega
theorem plainI_facts (r : Int) (x : TX) : (plainI r x).line = x.line ∧ (plainI r x).s.length ≤ x.s.length + 1 ∧ (plainI r x).l.length ≤ x.l.length + 2 := by
  have h1 := endT_facts x
  have h2 := endT_len x
  have m1 := moreT_facts 1 (ch r) x
  have m2 := moreT_facts 2 (ch r) x
  unfold plainI
  split
  · exact ⟨m1.1, by omega, by rw [m1.2.1]; omega⟩
  split
  · exact ⟨m2.1, by omega, by rw [m2.2.1]; omega⟩
  split
  · exact ⟨h1.1, by omega, by omega⟩
  split
  · exact ⟨h1.1, by simp only; omega, by simp only; omega⟩
  split
  · exact ⟨h1.1, by simp only; omega, by simp only; omega⟩
  split
  · exact ⟨h1.1, by simp only; omega, by simp only [List.length_append, List.length_singleton]; omega⟩
  · exact ⟨rfl, by simp only; omega, by simp only; omega⟩
theorem plainI_high (r : Int) (x : TX) (h : 128 ≤ r) : plainI r x = { x with bad := true } := by
  unfold plainI
  rw [if_neg (by omega), if_neg (by omega), if_neg (by omega), if_neg (by omega), if_neg (by omega), if_neg (by omega)]
def bl (s : ByteArray) : List UInt8 := s.data.toList
theorem bl_len (s : ByteArray) : (bl s).length = s.size := by cases s; rfl
theorem bl_get (s : ByteArray) (i : Nat) (h : i < s.size) : (bl s)[i]'(by rw [bl_len]; exact h) = s[i]'h := by cases s; rfl
theorem bl_drop (s : ByteArray) (i : Nat) (h : i < s.size) : (bl s).drop i = s[i]'h :: (bl s).drop (i + 1) := by
  rw [List.drop_eq_getElem_cons (by rw [bl_len]; exact h), bl_get]
/-- A rune of the text. -/
theorem go_step (s : ByteArray) (pos : Nat) (x : TX) (h : pos < s.size) (hb : x.bad = false) (r : Int) (n : Nat) (hr : r = (Utf8.decode s pos).1) (hn : n = (Utf8.decode s pos).2) :
    1 ≤ n ∧ pos + n ≤ s.size ∧
    (r = 10 → n = 1 ∧ goT ((bl s).drop pos) x = if (closeT x).bad = true then .inl (closeT x).line else goT ((bl s).drop (pos + 1)) { closeT x with line := (closeT x).line + 1 }) ∧
    (¬ r = 10 → x.rem = true → goT ((bl s).drop pos) x = goT ((bl s).drop (pos + n)) x) ∧
    (¬ r = 10 → x.rem = false → goT ((bl s).drop pos) x = if (plainI r x).bad = true then .inl (plainI r x).line else goT ((bl s).drop (pos + n)) (plainI r x)) := by
  have hd := bl_drop s pos h
  by_cases ha : (s[pos]'h).toNat < 128
  · rw [decode_ascii s pos h ha] at hr hn
    simp only at hr hn
    subst hn hr
    refine ⟨by omega, by omega, fun h10 => ⟨rfl, ?_⟩, fun h10 hrem => ?_, fun h10 hrem => ?_⟩
    · have h10' : (s[pos]'h).toNat = 10 := by omega
      rw [hd, goT, byteT, if_pos h10', if_pos h10']
    · have h10' : ¬ (s[pos]'h).toNat = 10 := by omega
      rw [hd, goT, byteT, if_neg h10', if_pos hrem, if_neg (by rw [hb]; decide), if_neg h10']
    · have h10' : ¬ (s[pos]'h).toNat = 10 := by omega
      have hb1 : byteT s[pos] x = plainI (s[pos]'h).toNat x := by rw [byteT, if_neg h10', if_neg (show ¬ x.rem = true by rw [hrem]; exact Bool.false_ne_true)]
      rw [hd, goT, hb1, if_neg h10']
  · have hh := decode_high s pos h (by omega)
    have h2 := decode_high2 s pos h (by omega)
    rw [← hn] at hh h2
    have hl := (h2 (n - 1) (by omega)).1
    refine ⟨hh.2, by omega, fun h10 => by omega, fun h10 hrem => ?_, fun h10 hrem => ?_⟩
    · rw [← List.drop_drop]
      refine goT_rem _ x hb hrem n (by rw [List.length_drop, bl_len]; omega) (fun j hj hlt => ?_)
      rw [List.getElem_drop, bl_get s (pos + j) (h2 j hlt).1]
      have := (h2 j hlt).2
      rw [← get_at s (pos + j) (h2 j hlt).1]
      exact this
    · have h10' : ¬ (s[pos]'h).toNat = 10 := by omega
      have hb1 : byteT s[pos] x = { x with bad := true } := by rw [byteT, if_neg h10', if_neg (show ¬ x.rem = true by rw [hrem]; exact Bool.false_ne_true), plainI_high _ _ (by omega)]
      rw [hd, goT, hb1, plainI_high _ _ (by omega), if_pos (c := ({ x with bad := true } : TX).bad = true) rfl, if_pos (c := ({ x with bad := true } : TX).bad = true) rfl]
theorem go_end (s : ByteArray) (pos : Nat) (x : TX) (h : ¬ pos < s.size) : goT ((bl s).drop pos) x = if (closeT x).bad = true then .inl (closeT x).line else .inr (closeT x) := by
  rw [List.drop_eq_nil_of_le (by rw [bl_len]; omega)]
  rfl
/-- What lex.All says of a text: a line and an error, or the tokens. -/
def allT (s : ByteArray) : (Int × Int) ⊕ List S31 :=
  if 8192 < s.size then .inl (0, 2) else match goT (bl s) x0 with | .inl n => .inl (n, 3) | .inr x => .inr x.l
theorem TxAt.iter {w : World} {b base : Nat} {x : TX} (h : TxAt w b base x) {k : Nat} {s : ByteArray} {pos : Nat} (hk : w.heap[k]? = some (.stringIter s pos)) (pos' : Nat) : TxAt (w.iterAt k s pos') b base x := by
  obtain ⟨v, hh, hr⟩ := h
  have hbk : b ≠ k := by rintro rfl; rw [hk] at hh; cases hh
  refine ⟨v, (Lib.iterAt_other w k b s pos' hbk).trans hh, Kd.R_mono (Kd.R_move (Kd.R_bound hr) (fun j hj => Lib.iterAt_other w k j s pos' ?_)) (fun _ hj => hj.1)⟩
  obtain ⟨_, _, _, q, _, cells, hc⟩ := hj
  rintro rfl
  rw [hk] at hc
  cases hc
/-- The post of lex.All. -/
def AllPost (s : ByteArray) (w : World) (e : Ending) (w' : World) : Prop :=
  Below w.heap.size w w' ∧ match allT s with
  | .inl (n, er) => e = .returned (.tuple #[.slice none 0 0, .int .i64 n, .int .i64 er])
  | .inr l => ∃ v, e = .returned (.tuple #[v, .int .i64 0, .int .i64 0]) ∧ k31.R 30 w' w.heap.size (fun _ => True) v l ∧ l.length ≤ 2 * s.size + 2
theorem Kb.below {base b : Nat} {w1 w2 : World} (h : Kb base b w1 w2) {m : Nat} (h1 : m ≤ base) (h2 : m ≤ b) : Below m w1 w2 := ⟨h.os, h.tape, h.output, h.size, fun k hk => h.keep k (by omega) (by omega)⟩

theorem All_s1 (w : World) (s : ByteArray) : ((w.alloc (.cells #[.slice none 0 0, .int .i64 1, .int .i64 0, .string ⟨#[]⟩, .bool false, .bool false, .bool false] 45)).iter s 0).heap[w.heap.size + 1]? = some (.stringIter s 0) := by
  have h := World.iter_heap (w.alloc (.cells #[.slice none 0 0, .int .i64 1, .int .i64 0, .string ⟨#[]⟩, .bool false, .bool false, .bool false] 45)) s 0
  rw [World.size_alloc] at h
  exact h
theorem All_s2 (w : World) (s : ByteArray) : TxAt ((w.alloc (.cells #[.slice none 0 0, .int .i64 1, .int .i64 0, .string ⟨#[]⟩, .bool false, .bool false, .bool false] 45)).iter s 0) w.heap.size (w.heap.size + 2) x0 :=
  ⟨.slice none 0 0, (Below.heap_alloc _ _ _ (by rw [World.size_alloc]; omega)).trans (heap_alloc_new _ _), Kd.R_nil _ _ _ _ _⟩
theorem All_s3 (w : World) (s : ByteArray) : Below w.heap.size w ((w.alloc (.cells #[.slice none 0 0, .int .i64 1, .int .i64 0, .string ⟨#[]⟩, .bool false, .bool false, .bool false] 45)).iter s 0) :=
  below_alloc (below_alloc (Below.refl _ _) _) _

set_option maxHeartbeats 1000000 in
theorem All_calls (s : ByteArray) (w : World) : Calls Try.prog 9 #[.string s] w fun e w' => AllPost s w e w' := by
  by_cases hbig : 8192 < s.size
  · have e : allT s = .inl (0, 2) := if_pos hbig
    have E : Aside0 (∀ w', Below w.heap.size w w' → AllPost s w (.returned (.tuple #[.slice none 0 0, .int .i64 0, .int .i64 2])) w') := ⟨fun w' hb => ⟨hb, by rw [e]⟩⟩
    clear e
    have hbi : (8192 : Int) < (s.size : Int) := by omega
    go_enter Try.func9, Try.ntmps9
    go_wp2
    go_ret3
    exact E.out _ (Below.refl _ _)
  have hle : s.size ≤ 8192 := by omega
  go_enter Try.func9, Try.ntmps9
  go_wp2
  go_loopw [7] (fun _ w' => ∃ (pos : Nat) (x : TX), Aside0 (w'.heap[w.heap.size + 1]? = some (.stringIter s pos)) ∧ Aside0 (TxAt w' w.heap.size (w.heap.size + 2) x) ∧ Aside0 (x.bad = false) ∧ Aside0 (goT ((bl s).drop pos) x = goT (bl s) x0) ∧ pos ≤ s.size ∧ x.l.length ≤ 2 * pos ∧ x.s.length ≤ pos ∧ 1 ≤ x.line ∧ x.line ≤ pos + 1 ∧ Aside0 (Below w.heap.size w w')) (fun _ w' => s.size - w'.iterPos (w.heap.size + 1))
  case atStart =>
    refine ⟨0, x0, ⟨All_s1 w s⟩, ⟨All_s2 w s⟩, ⟨rfl⟩, ⟨rfl⟩, by omega, by simp [x0], by simp [x0], by simp [x0], by simp [x0], ⟨All_s3 w s⟩⟩
  case round =>
    obtain ⟨pos, x, HK, HT, HX, HG, hpos, hxl, hxs, hln0, hln1, HB⟩ := hrel
    by_cases hp : pos < s.size
    · have hnx : ∀ ty, (Instr.next (.pointer (some ⟨w.heap.size + 1, 0, none⟩)) true ty).run Try.prog wr = _ := fun ty => Lib.run_next_any_at wr (w.heap.size + 1) s pos ty HK.out hp
      obtain ⟨r, hr⟩ : ∃ r : Int, r = ((Utf8.decode s pos).1 : Int) := ⟨_, rfl⟩
      obtain ⟨n, hn⟩ : ∃ n : Nat, n = (Utf8.decode s pos).2 := ⟨_, rfl⟩
      rw [← hr, ← hn] at hnx
      obtain ⟨g1, g2, g3, g4, g5⟩ := go_step s pos x hp HX.out r n hr hn
      rw [HG.out] at g3 g4 g5
      have G3 := Aside0.mk g3
      have G4 := Aside0.mk g4
      have G5 := Aside0.mk g5
      clear g3 g4 g5 hr hn
      have HK1 := Aside0.mk (Lib.iterAt_heap wr (w.heap.size + 1) s pos (pos + n) HK.out)
      have HT1 := Aside0.mk (HT.out.iter HK.out (pos + n))
      have HB1 := Aside0.mk (Lib.below_iterAt HB.out (show w.heap.size ≤ w.heap.size + 1 by omega) s (pos + n))
      have hmeas : wr.iterPos (w.heap.size + 1) = pos := iterPos_of HK.out
      have HM := Aside0.mk hmeas
      clear HK HT HB HG hmeas
      revert hnx HK1 HT1 HB1
      generalize wr.iterAt (w.heap.size + 1) s (pos + n) = w1
      intro hnx HK1 HT1 HB1
      have hsz := blk_lt HK1.out
      by_cases h10 : r = 10
      · obtain ⟨hn1, hgo⟩ := G3.out h10
        have HGO := Aside0.mk hgo
        have t10 : (r == 10) = true := beq_iff_eq.mpr h10
        have hf := closeT_facts x
        clear hgo h10 G3 G4 G5
        go_wp2_with (fail)
        refine (close_calls w1 w.heap.size (w.heap.size + 2) x (by omega) HT1.out (by omega) (by omega)).mono ?_
        rintro e w2 ⟨rfl, hT2, hK2⟩
        obtain ⟨y, hy⟩ : ∃ y, y = closeT x := ⟨_, rfl⟩
        rw [← hy] at hf hT2 HGO
        obtain ⟨e1, e2, e3⟩ := hf
        have y1 : 1 ≤ y.line := by omega
        have y2 : y.line ≤ pos + 1 := by omega
        clear e1 hy
        obtain ⟨v, hh, hrr⟩ := hT2
        have S2 := Aside0.mk hh
        have HR2 := Aside0.mk hrr
        have HK2 := Aside0.mk ((hK2.keep (w.heap.size + 1) (by omega) (by omega)).trans HK1.out)
        have HB2 := Aside0.mk (HB1.out.trans (hK2.below (show w.heap.size ≤ w.heap.size + 2 by omega) (Nat.le_refl _)))
        obtain ⟨⟨c0, c1, c2, c3, c4, c5, c6⟩, f0, f1, f2, f3, f4, f5, f6⟩ := TxAt.reads hh
        clear hh hrr hK2 hnx
        by_cases hbad' : y.bad = true
        case' neg => have hbad := Bool.eq_false_iff.mpr hbad'
        case' pos => have hbad := hbad'
        all_goals clear hbad'
        · have E : Aside0 (∀ m, AllPost s w (.returned (.tuple #[.slice none 0 0, .int .i64 y.line, .int .i64 3])) (w2.drewN m)) := ⟨fun m => ⟨pw_below_drewN HB2.out m, by rw [allT, if_neg hbig, HGO.out, if_pos hbad]⟩⟩
          rw [hbad] at c6
          go_wp2
          go_quiet (fail)
          try go_wp2
          go_ret3
          exact E.out _
        · have HGO2 : Aside0 (goT ((bl s).drop (pos + n)) { y with line := y.line + 1 } = goT (bl s) x0) := ⟨by rw [HGO.out, if_neg (by rw [hbad]; exact Bool.false_ne_true), hn1]⟩
          have HX2 := Aside0.mk hbad
          rw [hbad] at c6
          have hw : wrap64 (y.line + 1) = y.line + 1 := wrap64_id _ (by omega)
          go_wp2
          have HB3 := Aside0.mk (HB2.out.setCell (show w.heap.size ≤ (⟨w.heap.size, 1, none⟩ : Addr).block from Nat.le_refl _) (.int .i64 (y.line + 1)))
          have HT3 : Aside0 (TxAt (w2.setCell ⟨w.heap.size, 1, none⟩ (.int .i64 (y.line + 1))) w.heap.size (w.heap.size + 2) { y with line := y.line + 1 }) := ⟨⟨v, blk_put S2.out 1 _ rfl, Kd.R_far HR2.out (fun _ h => h) _⟩⟩
          have HK3 := Aside0.mk ((Below.heap_setCell w2 ⟨w.heap.size, 1, none⟩ (.int .i64 (y.line + 1)) (w.heap.size + 1) (by simp)).trans HK2.out)
          go_roundw
          case rel => exact ⟨pos + n, _, HK3, HT3, HX2, HGO2, by omega, by simp only; omega, by simp only; omega, by simp only; omega, by simp only; omega, HB3⟩
          case measure => rw [iterPos_of HK3.out, HM.out]; omega
      · have t10 : (r == 10) = false := beq_eq_false_iff_ne.mpr h10
        rcases hrem : x.rem
        · have hgo := G5.out h10 hrem
          have HGO := Aside0.mk hgo
          have hf := plainI_facts r x
          have c5 := (TxAt.reads HT1.out.choose_spec.1).1.2.2.2.2.2.1
          rw [hrem] at c5
          clear hgo h10 G3 G4 G5
          go_wp2_with (fail)
          refine (plain_calls w1 w.heap.size (w.heap.size + 2) x r (by omega) HT1.out (by omega) (by omega)).mono ?_
          rintro e w2 ⟨rfl, hT2, hK2⟩
          clear c5
          obtain ⟨y, hy⟩ : ∃ y, y = plainI r x := ⟨_, rfl⟩
          rw [← hy] at hf hT2 HGO
          obtain ⟨e1, e2, e3⟩ := hf
          have y1 : 1 ≤ y.line := by omega
          have y2 : y.line ≤ pos + 1 := by omega
          clear e1 hy
          obtain ⟨v, hh, hrr⟩ := hT2
          have S2 := Aside0.mk hh
          have HR2 := Aside0.mk hrr
          have HK2 := Aside0.mk ((hK2.keep (w.heap.size + 1) (by omega) (by omega)).trans HK1.out)
          have HB2 := Aside0.mk (HB1.out.trans (hK2.below (show w.heap.size ≤ w.heap.size + 2 by omega) (Nat.le_refl _)))
          obtain ⟨⟨c0, c1, c2, c3, c4, c5, c6⟩, f0, f1, f2, f3, f4, f5, f6⟩ := TxAt.reads hh
          clear hh hrr hK2 hnx
          by_cases hbad' : y.bad = true
          case' neg => have hbad := Bool.eq_false_iff.mpr hbad'
          case' pos => have hbad := hbad'
          all_goals clear hbad'
          · have E : Aside0 (∀ m, AllPost s w (.returned (.tuple #[.slice none 0 0, .int .i64 y.line, .int .i64 3])) (w2.drewN m)) := ⟨fun m => ⟨pw_below_drewN HB2.out m, by rw [allT, if_neg hbig, HGO.out, if_pos hbad]⟩⟩
            rw [hbad] at c6
            go_wp2
            go_quiet (fail)
            try go_wp2
            go_ret3
            exact E.out _
          · have HGO2 : Aside0 (goT ((bl s).drop (pos + n)) y = goT (bl s) x0) := ⟨by rw [HGO.out, if_neg (by rw [hbad]; exact Bool.false_ne_true)]⟩
            have HX2 := Aside0.mk hbad
            rw [hbad] at c6
            go_wp2
            go_roundw
            case rel => exact ⟨pos + n, _, HK2, ⟨⟨v, S2.out, HR2.out⟩⟩, HX2, HGO2, by omega, by omega, by omega, by omega, by omega, HB2⟩
            case measure => rw [iterPos_of HK2.out, HM.out]; omega
        · have hgo := G4.out h10 hrem
          have HGO := Aside0.mk hgo
          have hT2 := HT1.out
          obtain ⟨v, hh, hrr⟩ := hT2
          obtain ⟨⟨c0, c1, c2, c3, c4, c5, c6⟩, f0, f1, f2, f3, f4, f5, f6⟩ := TxAt.reads hh
          rw [hrem] at c5
          rw [HX.out] at c6
          clear hgo h10 G3 G4 G5 hh hrr
          go_wp2
          go_roundw
          case rel => exact ⟨pos + n, x, HK1, HT1, HX, ⟨HGO.out.symm⟩, by omega, by omega, by omega, by omega, by omega, HB1⟩
          case measure => rw [iterPos_of HK1.out, HM.out]; omega
    · have hnx : ∀ ty, (Instr.next (.pointer (some ⟨w.heap.size + 1, 0, none⟩)) true ty).run Try.prog wr = _ := fun ty => Lib.run_next_end_at wr (w.heap.size + 1) s pos ty HK.out hp
      have hgo := go_end s pos x hp
      rw [HG.out] at hgo
      have HGO := Aside0.mk hgo
      have hf := closeT_facts x
      have hsz := blk_lt HK.out
      clear hgo HG
      go_wp2_with (fail)
      refine (close_calls wr w.heap.size (w.heap.size + 2) x (by omega) HT.out (by omega) (by omega)).mono ?_
      rintro e w2 ⟨rfl, hT2, hK2⟩
      obtain ⟨y, hy⟩ : ∃ y, y = closeT x := ⟨_, rfl⟩
      rw [← hy] at hf hT2 HGO
      obtain ⟨e1, e2, e3⟩ := hf
      have y1 : 1 ≤ y.line := by omega
      have y2 : y.line ≤ pos + 1 := by omega
      clear e1 hy
      obtain ⟨v, hh, hrr⟩ := hT2
      have S2 := Aside0.mk hh
      have HR2 := Aside0.mk hrr
      have HB2 := Aside0.mk (HB.out.trans (hK2.below (show w.heap.size ≤ w.heap.size + 2 by omega) (Nat.le_refl _)))
      obtain ⟨⟨c0, c1, c2, c3, c4, c5, c6⟩, f0, f1, f2, f3, f4, f5, f6⟩ := TxAt.reads hh
      clear hh hrr hK2
      rcases hbad : y.bad
      · have E : Aside0 (AllPost s w (.returned (.tuple #[v, .int .i64 0, .int .i64 0])) w2) := ⟨HB2.out, by
          rw [allT, if_neg hbig, HGO.out, if_neg (by rw [hbad]; exact Bool.false_ne_true)]
          exact ⟨v, rfl, Kd.R_lower (Kd.R_mono HR2.out (fun _ _ => trivial)) (by omega), by omega⟩⟩
        rw [hbad] at c6
        go_wp2
        repeat (go_quiet (fail); try go_wp2)
        go_ret3
        exact E.out
      · have E : Aside0 (∀ m, AllPost s w (.returned (.tuple #[.slice none 0 0, .int .i64 y.line, .int .i64 3])) (w2.drewN m)) := ⟨fun m => ⟨pw_below_drewN HB2.out m, by rw [allT, if_neg hbig, HGO.out, if_pos hbad]⟩⟩
        rw [hbad] at c6
        go_wp2
        go_quiet (fail)
        try go_wp2
        go_ret3
        exact E.out _
end Go.Proofs.Ythnmaaoafogbiaa.Lex
