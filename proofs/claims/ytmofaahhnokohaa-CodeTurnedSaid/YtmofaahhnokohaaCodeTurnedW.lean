/- The walk of CodeTurned. -/
import Derived.Test.YtmofaahhnokohaaCodeNumbersW
namespace Go.Proofs.Ytmofaahhnokohaa.Code
set_option linter.unusedSimpArgs false
set_option linter.unusedVariables false
open Go.RowKit Go.Proofs.YtmofaahhnokohaaW.PrintWords Go.Proofs.YtmofaahhnokohaaW.PrintLast Go.Proofs.YtmofaahhnokohaaW.PrintMore PCodeAll Go.Proofs.YtmofaahhnokohaaW.CanonE
attribute [local go_sem] max2_mx min2_mn max_two min_two max_three min_three max_four min_four

theorem u8_of_wf {y : Int} (h : (Lit.int .u8 y).wf = true) : 0 ≤ y ∧ y < 256 := by
  simp only [Lit.wf, Bool.and_eq_true, decide_eq_true_eq] at h
  have h1 : IntKind.u8.min = 0 := rfl
  have h2 : IntKind.u8.max = 255 := rfl
  omega
theorem xor_u8 (a : Nat) (y : Int) (ha : a < 256) (hy : 0 ≤ y ∧ y < 256) : ∃ z : Nat, Go.bits .xor .u8 (a : Int) y = (z : Int) ∧ z < 256 ∧ (z = a ↔ y = 0) := by
  obtain ⟨b, rfl⟩ := Int.eq_ofNat_of_zero_le hy.1
  have hb : b < 256 := by omega
  refine ⟨a ^^^ b, ?_, Nat.xor_lt_two_pow (n := 8) ha hb, ?_⟩
  · have h1 : IntKind.u8.bits = 8 := rfl
    simp only [Go.bits, BitVec.ofInt_natCast, BitVec.toNat_xor, BitVec.toNat_ofNat, h1]
    rw [Nat.mod_eq_of_lt (show a < 2 ^ 8 from ha), Nat.mod_eq_of_lt (show b < 2 ^ 8 from hb)]
    exact Go.wraps_u8 _ (Int.natCast_nonneg _) (by have : a ^^^ b < 2 ^ 8 := Nat.xor_lt_two_pow (n := 8) ha hb; exact_mod_cast this)
  · constructor
    · intro h
      have h2 : a ^^^ (a ^^^ b) = a ^^^ a := by rw [h]
      rw [← Nat.xor_assoc, Nat.xor_self, Nat.zero_xor] at h2
      omega
    · intro h
      have : b = 0 := by omega
      rw [this, Nat.xor_zero]
/-- One byte turned. -/
theorem turned_ne {l : List UInt8} {i z : Nat} (hi : i < l.length) (hz : z < 256) : l.set i (UInt8.ofNat z) = l ↔ z = (l[i]'hi).toNat := by
  constructor
  · intro h
    have h2 : (l.set i (UInt8.ofNat z))[i]'(by rw [List.length_set]; exact hi) = l[i]'hi := by simp only [h]
    rw [List.getElem_set_self] at h2
    rw [← h2, UInt8.toNat_ofNat']
    omega
  · intro h
    rw [h, UInt8.ofNat_toNat, List.set_getElem_self]
theorem bytesOf_bs (l : List UInt8) : bytesOf (bs l) = l.map (fun b => (b.toNat : Int)) := rfl
theorem bytesOf_set (l : List UInt8) (i z : Nat) (hz : z < 256) : (bytesOf (bs l)).set i (z : Int) = bytesOf (bs (l.set i (UInt8.ofNat z))) := by
  rw [bytesOf_bs, bytesOf_bs, List.map_set]
  congr 1
  rw [UInt8.toNat_ofNat']
  omega
theorem str_bytesOf (l : List UInt8) : strOfNums (bytesOf (bs l)) = bs l := by
  rw [bytesOf_bs]
  apply ByteArray.ext
  simp [strOfNums, bs, Function.comp_def]
theorem reads_set {W : World} {g n : Nat} {xs : List Int} (h : ReadsInt W .u8 (some ⟨g, 0, none⟩) n xs) (i : Nat) (z : Int) (hi : i < n) :
    ReadsInt (W.setCell ⟨g, i, none⟩ (.int .u8 z)) .u8 (some ⟨g, 0, none⟩) n (xs.set i z) := by
  obtain ⟨h1, h2, h3⟩ := h
  obtain ⟨ad, e, hc⟩ := h3 (by omega)
  injection e with e
  subst e
  refine ⟨by rw [List.length_set]; exact h1, h2, fun _ => ⟨_, rfl, fun j hj => ?_⟩⟩
  have hj' := hc j hj
  rw [add_plain] at hj' ⊢
  by_cases hij : i = j
  · subst hij
    rw [World.cell?_setCell_same (h := hj')]
    simp [List.getD_eq_getElem?_getD, h1, hi]
  · rw [World.cell?_setCell_other (h := fun he => hij (by injection he)), hj']
    simp [List.getD_eq_getElem?_getD, List.getElem?_set_ne hij]
theorem reads_at {W : World} {g n : Nat} {xs : List Int} (h : ReadsInt W .u8 (some ⟨g, 0, none⟩) n xs) (i : Nat) (hi : i < n) : W.cell? ⟨g, i, none⟩ = some (.int .u8 (xs.getD i 0)) := by
  obtain ⟨h1, h2, h3⟩ := h
  obtain ⟨ad, e, hc⟩ := h3 (by omega)
  injection e with e
  subst e
  have := hc i hi
  rwa [add_plain] at this
theorem bytes_unfrozen (W : World) (s : ByteArray) (i : Nat) (hi : i < s.size) : (Lib.bytesWorld W 5 s).frozen? ⟨W.heap.size, i, none⟩ = false := by
  have h : s.size ≤ (Lib.bytesCells W 5 s).size := by
    unfold Lib.bytesCells
    rw [Array.size_append, Array.size_map]
    exact Nat.le_add_right _ _
  simp [World.frozen?, Lib.bytesWorld_at_new]
  omega
theorem reads_below {W W1 : World} {A : Option Addr} {n : Nat} {xs : List Int} (h : ReadsInt W .u8 A n xs) (hb : Below W.heap.size W W1) : ReadsInt W1 .u8 A n xs := by
  obtain ⟨h1, h2, h3⟩ := h
  refine ⟨h1, h2, fun hp => ?_⟩
  obtain ⟨ad, e, hc⟩ := h3 hp
  exact ⟨ad, e, fun j hj => cell_below (hc j hj) hb⟩
theorem sl48 : Try.prog.underlying 48 = some (.slice (Try.prog.elem 48)) := by kernel_rfl
theorem sz48 (w : World) : (sizeOf (Try.prog.elem 48)).run Try.prog w = .ok 1 w := by rfl
theorem ix48 (ad : Addr) (len : Nat) (c : Nat) (i : Int) (n : Nat) (W : World) (h0 : 0 ≤ i) (h1 : i < len) (hn : i.toNat = n) :
    (Instr.indexAt 48 (.slice (some ad) len c) (.int .i64 i)).run Try.prog W = .ok (.pointer (some (ad.add n))) W := by
  rw [run_indexAt_slice (h := sl48), if_pos ⟨h0, h1⟩, sz48, ← hn]
  show Result.ok (Value.pointer (some (ad.add (i.toNat * 1)))) W = _
  rw [Nat.mul_one]
theorem put_size {p : PG} : 8 ≤ (encB p).length := by
  rw [encB, List.length_map, putB_size]
  omega
theorem get_of {l : List UInt8} (h : GetOk l) : errOf (getP l) = 0 ∧ encB (getP l) = l := by
  rw [(getP_ok h).1]
  exact h
theorem put_most {c : Bool} {p : PG} (h : ProgOk c p) : (encB p).length ≤ 400 := by
  rw [encB, List.length_map, putB_size]
  have h1 := funs_size p.fs (fun f hf => (h.funs f hf).len.2) p.fs.length
  rw [List.take_length] at h1
  have := h.len
  omega
theorem same_turned {p q : PG} {l l' : List UInt8} {P : Prop} (hp : errOf p = 0) (hq : errOf q = 0) (ep : encB p = l) (eq : encB q = l') (h : l' = l ↔ P) : p = q ↔ P := by
  rw [← h, ← ep, ← eq]
  constructor
  · intro he
    rw [he]
  · intro he
    exact (enc_inj hp hq (r := []) (by rw [List.append_nil, he])).1
end Go.Proofs.Ytmofaahhnokohaa.Code
namespace Go.Proofs.Ytmofaahhnokohaa.CodeTurned
open Go.RowKit Go.Proofs.YtmofaahhnokohaaW.PrintWords Go.Proofs.YtmofaahhnokohaaW.PrintLast Go.Proofs.YtmofaahhnokohaaW.PrintMore PCodeAll Go.Proofs.YtmofaahhnokohaaW.CanonE Go.Proofs.Ytmofaahhnokohaa.Code
attribute [local go_sem] max2_mx min2_mn max_two min_two max_three min_three max_four min_four


set_option maxHeartbeats 1000000 in
theorem CodeTurned_calls (n : List Int) (A : Option Addr) (c : Nat) (at_ y : Int) (w : World) (hC : (Kd.int .i64).C w A n.length n) (hc : n.length ≤ c) (hy : (Lit.int .u8 y).wf = true) :
    Calls Try.prog 8 #[.slice A n.length c, .int .i64 at_, .int .u8 y] w fun e w' => e = .returned (.bool true) ∧ Below w.heap.size w w' := by
  have HY := Aside0.mk (u8_of_wf hy)
  clear hy
  by_cases h100 : 100 < n.length
  · have h100' : decide ((100 : Int) < (n.length : Int)) = true := decide_eq_true (by omega)
    clear hC
    go_enter Try.func8, Try.ntmps8
    go_wp2_with (fail)
    refine (awake_calls _).mono ?_
    rintro e w1 ⟨rfl, hb⟩
    have HB := Aside0.mk hb
    clear hb
    go_wp2_with (fail)
    go_ret
    exact ⟨rfl, HB.out⟩
  have h100' : decide ((100 : Int) < (n.length : Int)) = false := decide_eq_false (by omega)
  clear h100
  have HC := Aside0.mk hC
  clear hC
  go_enter Try.func8, Try.ntmps8
  go_wp2_with (fail)
  refine (Prog_calls n A c true _ HC.out hc).mono ?_
  rintro e w1 ⟨p, U, rfl, hp, hR, hb⟩
  obtain ⟨A1, c1, rfl, hc1, hC1⟩ := RP.reads hR
  have hg : w.heap.size ≤ w1.heap.size := hb.size
  have HP := Aside0.mk hp
  have S1 := Aside0.mk (heap_alloc_new w1 (.cells #[.slice A1 p.fs.length c1, .int .i64 p.fu, .int .i64 p.de, .int .i64 p.fl] 33))
  have HB := Aside0.mk (hb.alloc hb.size (.cells #[.slice A1 p.fs.length c1, .int .i64 p.fu, .int .i64 p.de, .int .i64 p.fl] 33))
  have HC1 := Aside0.mk (Kd.C_below hC1 (below_alloc (Below.refl _ _) (.cells #[.slice A1 p.fs.length c1, .int .i64 p.fu, .int .i64 p.de, .int .i64 p.fl] 33)))
  have HR1 := Aside0.mk (Kd.R_alloc hR (.cells #[.slice A1 p.fs.length c1, .int .i64 p.fu, .int .i64 p.de, .int .i64 p.fl] 33))
  clear HC hp hR hb hC1 hc1 h100' hc
  obtain ⟨⟨p0, p1, p2, p3⟩, ⟨q0, q1, q2, q3⟩⟩ := row4' S1.out
  go_wp2_with (fail)
  refine (Put_calls p A1 c1 _ HC1.out).mono ?_
  rintro e w2 ⟨rfl, hb2⟩
  rw [prog_err HP.out, if_pos rfl, str_enc]
  have HC2 := Aside0.mk (Kd.R_mono (ok' := fun k => k < w2.heap.size) (Kd.R_bound (Kd.R_below HR1.out hb2)) (fun k hk => hk.2.2.1))
  have S2 := Aside0.mk (blk_below S1.out hb2)
  have HB2 := Aside0.mk (below_step HB.out hb2)
  clear p0 p1 p2 p3 q0 q1 q2 q3 hb2 HC1 HR1 S1 HB
  obtain ⟨l, hl⟩ : ∃ l, encB p = l := ⟨_, rfl⟩
  have HL := Aside0.mk hl
  have h8 : 8 ≤ (bs l).size := by rw [bs_size, ← hl]; exact put_size
  rw [hl]
  clear hl
  revert S2
  generalize w1.heap.size = g3 at hg ⊢
  intro S2
  have hcv := print_bytes (P := Try.prog) 9 48 5 Try.underlying9 Try.underlying48 Try.underlying5 (bs l) w2
  go_wp2_with (fail)
  have hs9 : (bs l).size ≤ 400 := by rw [bs_size, ← HL.out]; exact put_most HP.out
  refine (Place_calls at_ (bs l).size _ (by omega) (by omega)).mono ?_
  rintro e w' ⟨rfl, rfl⟩
  obtain ⟨i, hi⟩ : ∃ i : Nat, at_ % ((bs l).size : Int) = (i : Int) := ⟨(at_ % ((bs l).size : Int)).toNat, by have := Int.emod_nonneg at_ (show ((bs l).size : Int) ≠ 0 by omega); omega⟩
  have hil : i < (bs l).size := by have := Int.emod_lt_of_pos at_ (show (0 : Int) < ((bs l).size : Int) by omega); omega
  rw [hi]
  have hil2 : i < l.length := hil
  have RB0 := Aside0.mk (bytes_reads w2 5 (bs l) (by omega))
  have FZ := Aside0.mk (bytes_unfrozen w2 (bs l) i hil)
  have hbb := bytes_below (Below.refl w2.heap.size w2) (Nat.le_refl _) 5 (bs l)
  have S3 := Aside0.mk (blk_below S2.out hbb)
  have HB3 := Aside0.mk (below_step HB2.out hbb)
  have HC3 := Aside0.mk (Kd.R_below HC2.out hbb)
  have hg3b := blk_lt S2.out
  have hgb := HB2.out.size
  clear S2 HB2 HC2 hbb hi hcv
  revert RB0 FZ S3 HB3 HC3 hg3b hgb
  generalize Lib.bytesWorld w2 5 (bs l) = w3
  generalize grownCap w2 (bs l).size 0 5 = cb
  generalize w2.heap.size = gb
  intro RB0 FZ S3 HB3 HC3 hg3b hgb
  obtain ⟨x, hx⟩ : ∃ x : Nat, (l[i]'hil2).toNat = x := ⟨_, rfl⟩
  have hx2 : x < 256 := by rw [← hx]; exact UInt8.toNat_lt _
  obtain ⟨z, hz, hz2, hz3⟩ := xor_u8 x y hx2 HY.out
  obtain ⟨l', hl'⟩ : ∃ l', l.set i (UInt8.ofNat z) = l' := ⟨_, rfl⟩
  have HT := Aside0.mk (show l' = l ↔ y = 0 by rw [← hl', turned_ne hil2 hz2, hx]; exact hz3)
  have HR1 := Aside0.mk (show ReadsInt (w3.setCell ⟨gb, i, none⟩ (.int .u8 z)) .u8 (some ⟨gb, 0, none⟩) (bs l).size (bytesOf (bs l')) by
    have h := reads_set RB0.out i z hil
    rwa [bytesOf_set l i z hz2, hl'] at h)
  have a0 : w3.cell? ⟨gb, i, none⟩ = some (.int .u8 x) := by
    have h := reads_at RB0.out i hil
    rw [h, bytesOf_bs, List.getD_eq_getElem?_getD, List.getElem?_map, List.getElem?_eq_getElem hil2, ← hx]
    rfl
  have hix : ∀ W : World, (Instr.indexAt 48 (.slice (some ⟨gb, 0, none⟩) (bs l).size cb) (.int .i64 i)).run Try.prog W = .ok (.pointer (some ⟨gb, i, none⟩)) W := by
    intro W
    have h := ix48 ⟨gb, 0, none⟩ (bs l).size cb (i : Int) i W (by omega) (by omega) (Int.toNat_natCast i)
    rwa [add_plain] at h
  have q0 := FZ.out
  have hcv := string_of_reads (P := Try.prog) (src := 48) (dst := 9) (e := 5) (c := cb) Try.underlying48 Try.underlying5 Try.underlying9 HR1.out
  rw [str_bytesOf] at hcv
  have HZ := Aside0.mk hz
  have hzz := HZ.out
  clear hz hz3 hl' hx
  go_wp2_with (fail)
  have S4 := Aside0.mk ((Below.heap_setCell w3 ⟨gb, i, none⟩ (.int .u8 z) g3 (Nat.ne_of_lt hg3b)).trans S3.out)
  have HB4 := Aside0.mk (HB3.out.setCell (p := ⟨gb, i, none⟩) hgb (.int .u8 z))
  have HC4 := Aside0.mk (Kd.R_far (p := ⟨gb, i, none⟩) HC3.out (fun k hk => Nat.ne_of_lt hk) (.int .u8 z))
  clear S3 HB3 HC3 RB0 FZ q0 a0 hix hcv hzz HZ
  revert S4 HB4 HC4 HR1
  generalize w3.setCell ⟨gb, i, none⟩ (.int .u8 z) = w4
  intro HR1 S4 HB4 HC4
  refine (Get_calls l' _).mono ?_
  rintro e w5 ⟨U, rfl, hR5, hb5⟩
  have hs := bs_size l'
  by_cases hG : GetOk l'
  · rw [(getP_ok hG).2]
    obtain ⟨hq0, hq1⟩ := get_of hG
    obtain ⟨q, hq⟩ : ∃ q, getP l' = q := ⟨_, rfl⟩
    rw [hq] at hR5 hq0 hq1
    rw [hq]
    obtain ⟨A5, c5, rfl, hc5, hC5⟩ := RP.reads hR5
    have HQ0 := Aside0.mk hq0
    have HQ1 := Aside0.mk hq1
    have S5 := Aside0.mk (blk_alloc (blk_below S4.out hb5) (.cells #[.slice A5 q.fs.length c5, .int .i64 q.fu, .int .i64 q.de, .int .i64 q.fl] 33))
    have T5 := Aside0.mk (heap_alloc_new w5 (.cells #[.slice A5 q.fs.length c5, .int .i64 q.fu, .int .i64 q.de, .int .i64 q.fl] 33))
    have HB5 := Aside0.mk (below_alloc (below_step HB4.out hb5) (.cells #[.slice A5 q.fs.length c5, .int .i64 q.fu, .int .i64 q.de, .int .i64 q.fl] 33))
    have HC5 := Aside0.mk (Kd.R_reads' (Kd.R_alloc (Kd.R_below HC4.out hb5) (.cells #[.slice A5 q.fs.length c5, .int .i64 q.fu, .int .i64 q.de, .int .i64 q.fl] 33))).2.2
    have HD5 := Aside0.mk (Kd.C_below hC5 (below_alloc (Below.refl _ _) (.cells #[.slice A5 q.fs.length c5, .int .i64 q.fu, .int .i64 q.de, .int .i64 q.fl] 33)))
    have HR5 := Aside0.mk (reads_below (reads_below HR1.out hb5) (below_alloc (Below.refl _ _) (.cells #[.slice A5 q.fs.length c5, .int .i64 q.fu, .int .i64 q.de, .int .i64 q.fl] 33)))
    clear hq hq0 hq1 hR5 hb5 hc5 hC5 S4 HB4 HC4 HR1 hs hG
    obtain ⟨s0, s1, s2, s3⟩ := ps_reads T5.out
    go_wp2_with (fail)
    refine (Put_calls q A5 c5 _ HD5.out).mono ?_
    rintro e w6 ⟨rfl, hb6⟩
    rw [if_pos HQ0.out, HQ0.out, str_enc, HQ1.out]
    have HR6 := Aside0.mk (reads_below HR5.out hb6)
    have HB6 := Aside0.mk (below_step HB5.out hb6)
    have HC6 := Aside0.mk (Kd.C_below HC5.out hb6)
    have HD6 := Aside0.mk (Kd.C_below HD5.out hb6)
    have S6 := Aside0.mk (blk_below S5.out hb6)
    have T6 := Aside0.mk (blk_below T5.out hb6)
    clear hb6 s0 s1 s2 s3 HB5 HC5 HD5 S5 T5 HR5
    obtain ⟨r0, r1, r2, r3⟩ := ps_reads S6.out
    obtain ⟨s0, s1, s2, s3⟩ := ps_reads T6.out
    have hcv := string_of_reads (P := Try.prog) (src := 48) (dst := 9) (e := 5) (c := cb) Try.underlying48 Try.underlying5 Try.underlying9 HR6.out
    rw [str_bytesOf] at hcv
    have hse : ((bs l').toList == (bs l').toList) = true := beq_self_eq_true _
    have HPQ := Aside0.mk (same_turned (prog_err HP.out) HQ0.out HL.out HQ1.out HT.out)
    by_cases hy0 : y = 0
    · have ty : (y == 0) = true := beq_iff_eq.mpr hy0
      have HY0 := Aside0.mk hy0
      clear hy0
      go_wp2_with (fail)
      refine (SameProg_calls p q A1 A5 c1 c5 true (iff_of_true rfl (HPQ.out.2 HY0.out)) _ HC6.out HD6.out).mono ?_
      rintro e w7 ⟨rfl, hb7⟩
      have HB7 := Aside0.mk (below_step HB6.out hb7)
      clear r0 r1 r2 r3 s0 s1 s2 s3 hcv hb7
      go_wp2_with (fail)
      refine (awake_calls _).mono ?_
      rintro e w8 ⟨rfl, hb8⟩
      have HB8 := Aside0.mk (below_step HB7.out hb8)
      clear hb8
      go_wp2_with (fail)
      go_ret
      exact ⟨rfl, HB8.out⟩
    · have ty : (y == 0) = false := beq_eq_false_iff_ne.mpr hy0
      have HY0 := Aside0.mk hy0
      clear hy0
      go_wp2_with (fail)
      refine (SameProg_calls p q A1 A5 c1 c5 false (iff_of_false Bool.false_ne_true (fun he => HY0.out (HPQ.out.1 he))) _ HC6.out HD6.out).mono ?_
      rintro e w7 ⟨rfl, hb7⟩
      have HB7 := Aside0.mk (below_step HB6.out hb7)
      clear r0 r1 r2 r3 s0 s1 s2 s3 hcv hb7
      go_wp2_with (fail)
      refine (awake_calls _).mono ?_
      rintro e w8 ⟨rfl, hb8⟩
      have HB8 := Aside0.mk (below_step HB7.out hb8)
      clear hb8
      go_wp2_with (fail)
      go_ret
      exact ⟨rfl, HB8.out⟩
  · rw [(getP_no hG).1, (getP_no hG).2]
    have ty : (y != 0) = true := bne_iff_ne.mpr (fun he => hG (by
      rw [HT.out.2 he, ← HL.out]
      have hd := dec_enc p [] (prog_err HP.out)
      rw [List.append_nil] at hd
      exact ⟨by rw [hd]; exact prog_err HP.out, by rw [hd]⟩))
    rw [(getP_no hG).1] at hR5
    obtain ⟨A5, c5, h5⟩ := Kd.R_slice hR5
    replace h5 : U = .slice A5 0 c5 := h5
    subst h5
    have HB7 := Aside0.mk (below_alloc (below_step HB4.out hb5) (.cells #[.slice A5 0 c5, .int .i64 0, .int .i64 0, .int .i64 0] 33))
    clear hR5 hb5 hG hs
    go_wp2_with (fail)
    refine (awake_calls _).mono ?_
    rintro e w8 ⟨rfl, hb8⟩
    have HB8 := Aside0.mk (below_step HB7.out hb8)
    clear hb8
    go_wp2_with (fail)
    go_ret
    exact ⟨rfl, HB8.out⟩
end Go.Proofs.Ytmofaahhnokohaa.CodeTurned
