/- The plain law of programs in bytes: what is put is got, with anything behind it. -/
import Derived.Test.YtmofaahhnokohaaCode4
namespace Go.Proofs.Ytmofaahhnokohaa.Code
set_option linter.unusedSimpArgs false
set_option linter.unusedVariables false
open Go.RowKit Go.Proofs.YtmofaahhnokohaaW.PrintWords PCodeAll

def u8 (n : Int) : UInt8 := UInt8.ofNat n.toNat
theorem u8_val (n : Int) : ((u8 (n % 256)).toNat : Int) = n % 256 := by
  have h0 := Int.emod_nonneg n (show (256 : Int) ≠ 0 by omega)
  have h1 := Int.emod_lt_of_pos n (show (0 : Int) < 256 by omega)
  rw [u8, UInt8.toNat_ofNat']
  omega
/-- The next number, of so many bytes; behind the end there are noughts. -/
def tk : Nat → Int → List UInt8 → Int × List UInt8
  | 0, v, l => (v, l)
  | n + 1, v, [] => tk n (v * 256) []
  | n + 1, v, b :: l => tk n (v * 256 + (b.toNat : Int)) l
def decIns (l : List UInt8) : S26 × List UInt8 :=
  let a := tk 1 0 l
  let b := tk 1 0 a.2
  if a.1 = 1 then let c := tk 4 0 b.2; (⟨a.1, b.1, wrap32 c.1, 0⟩, c.2)
  else let c := tk 1 0 b.2; let d := tk 1 0 c.2; (⟨a.1, b.1, c.1, d.1⟩, d.2)
def decFun : Nat → List UInt8 → List S26 × List UInt8
  | 0, l => ([], l)
  | _ + 1, [] => ([], [])
  | k + 1, b :: l => let x := decIns (b :: l); let f := decFun k x.2; (x.1 :: f.1, f.2)
def decFuns : Nat → List UInt8 → List (List S26) × List UInt8
  | 0, l => ([], l)
  | _ + 1, [] => ([], [])
  | k + 1, b :: l => let x := tk 1 0 (b :: l); let f := decFun x.1.toNat x.2; let g := decFuns k f.2; (f.1 :: g.1, g.2)
def dec (l : List UInt8) : PG :=
  let a := tk 3 0 l
  let b := tk 1 0 a.2
  let c := tk 1 0 b.2
  let d := tk 2 0 c.2
  let n := tk 1 0 d.2
  ⟨(decFuns n.1.toNat n.2).1, b.1, c.1, d.1⟩

theorem tk1 (x : Int) (r : List UInt8) : tk 1 0 (u8 (x % 256) :: r) = (x % 256, r) := by
  simp only [tk, u8_val, Int.zero_mul, Int.zero_add]
theorem tk2 (x : Int) (r : List UInt8) (h : 0 ≤ x ∧ x < 65536) : tk 2 0 ((bigB x 2).map u8 ++ r) = (x, r) := by
  simp only [bigB, byteAt_0, byteAt_1, List.map, List.cons_append, List.nil_append, tk, u8_val]
  congr 1
  omega
theorem tk4 (x : Int) (r : List UInt8) : tk 4 0 ((bigB x 4).map u8 ++ r) = (x % 4294967296, r) := by
  simp only [bigB, byteAt_0, byteAt_1, byteAt_2, byteAt_3, List.map, List.cons_append, List.nil_append, tk, u8_val]
  congr 1
  omega
theorem wrap32_mod (x : Int) (h : -2147483648 ≤ x ∧ x ≤ 2147483647) : wrap32 (x % 4294967296) = x := by
  simp only [wrap32]
  omega
theorem most_le (w : Int) : 1 ≤ most w ∧ most w ≤ 40 := by
  unfold most
  (repeat' split) <;> decide
theorem fits_small {w v : Int} (h : fits w v = true) (hw : w ≠ 6) : 0 ≤ v ∧ v < 40 := by
  rw [fits, if_neg hw, decide_eq_true_eq] at h
  have := most_le w
  omega
theorem kinds_small (op : Int) (h : op ≠ 1) : (kinds op).1 ≠ 6 ∧ (kinds op).2.1 ≠ 6 ∧ (kinds op).2.2 ≠ 6 := by
  unfold kinds
  rw [if_neg h]
  (repeat' split) <;> decide
theorem mod_id {x : Int} (h : 0 ≤ x ∧ x < 256) : x % 256 = x := Int.emod_eq_of_lt h.1 h.2
theorem shape_op {x : S26} (h : shape x = true) : 1 ≤ x.f0 ∧ x.f0 ≤ 15 := by
  simp only [shape, Bool.and_eq_true] at h
  exact of_decide_eq_true h.1
theorem decIns_enc (x : S26) (r : List UInt8) (h : shape x = true) : decIns ((insB x).map u8 ++ r) = (x, r) := by
  have ho := shape_op h
  simp only [shape, Bool.and_eq_true] at h
  obtain ⟨_, h1, h2, h3⟩ := h
  by_cases hc : x.f0 = 1
  · rw [hc] at h1 h2 h3
    have f1 := fits_small h1 (by decide)
    have f3 : x.f3 = 0 := by
      have : (kinds 1).2.2 = 0 := by decide
      rw [this, fits, if_neg (by decide), decide_eq_true_eq] at h3
      have : most 0 = 1 := by decide
      omega
    have f2 : -2147483648 ≤ x.f2 ∧ x.f2 ≤ 2147483647 := by
      have : (kinds 1).2.1 = 6 := by decide
      rw [this, fits, if_pos rfl, decide_eq_true_eq] at h2
      exact h2
    have e : (insB x).map u8 ++ r = u8 (x.f0 % 256) :: (u8 (x.f1 % 256) :: ((bigB x.f2 4).map u8 ++ r)) := by
      simp only [insB, if_pos hc, List.map_append, List.map, List.cons_append, List.nil_append]
    rw [e]
    unfold decIns
    simp only [tk1, tk4]
    rw [mod_id (by omega), mod_id (by omega), if_pos hc, wrap32_mod _ f2]
    cases x
    simp only at f3 ⊢
    rw [f3]
  · obtain ⟨k1, k2, k3⟩ := kinds_small x.f0 hc
    have f1 := fits_small h1 k1
    have f2 := fits_small h2 k2
    have f3 := fits_small h3 k3
    have e : (insB x).map u8 ++ r = u8 (x.f0 % 256) :: (u8 (x.f1 % 256) :: (u8 (x.f2 % 256) :: (u8 (x.f3 % 256) :: r))) := by
      simp only [insB, if_neg hc, List.map_append, List.map, List.cons_append, List.nil_append]
    rw [e]
    unfold decIns
    simp only [tk1]
    rw [mod_id (by omega), mod_id (by omega), mod_id (by omega), mod_id (by omega), if_neg hc]
theorem insB_cons (x : S26) : ∃ b l, insB x = b :: l := ⟨_, _, rfl⟩
theorem decFun_enc (f : List S26) (r : List UInt8) (h : f.all shape = true) : decFun f.length ((f.flatMap insB).map u8 ++ r) = (f, r) := by
  induction f with
  | nil => rfl
  | cons x f ih =>
    rw [List.all_cons, Bool.and_eq_true] at h
    rw [List.flatMap_cons, List.map_append, List.append_assoc, List.length_cons]
    have hi := decIns_enc x ((f.flatMap insB).map u8 ++ r) h.1
    obtain ⟨b, l, hl⟩ := insB_cons x
    rw [hl, List.map_cons, List.cons_append] at hi ⊢
    simp only [decFun, hi, ih h.2]
theorem decFuns_enc (fs : List (List S26)) (r : List UInt8) (h : fs.all (fun f => f.all shape) = true) (hl : fs.any longF = false) : decFuns fs.length ((fs.flatMap funB).map u8 ++ r) = (fs, r) := by
  induction fs with
  | nil => rfl
  | cons f fs ih =>
    rw [List.all_cons, Bool.and_eq_true] at h
    rw [List.any_cons, Bool.or_eq_false_iff] at hl
    have hf : f.length ≤ 40 := by
      have := hl.1
      simp only [longF, decide_eq_false_iff_not] at this
      omega
    rw [List.flatMap_cons, List.map_append, List.append_assoc, List.length_cons, funB, List.map_cons, List.cons_append]
    have e : ((f.length : Int) % 256).toNat = f.length := by omega
    have e2 := tk1 (f.length : Int) ((f.flatMap insB).map u8 ++ ((fs.flatMap funB).map u8 ++ r))
    simp only [decFuns, e2, e, decFun_enc f _ h.1, ih h.2 hl.2]
structure Good (p : PG) : Prop where
  len : p.fs.length ≤ 12
  long : p.fs.any longF = false
  fu : 0 ≤ p.fu ∧ p.fu ≤ 16
  de : 0 ≤ p.de ∧ p.de ≤ 5
  fl : 1 ≤ p.fl ∧ p.fl ≤ 500
  shapes : p.fs.all (fun f => f.all shape) = true
theorem good_of {p : PG} (h : errOf p = 0) : Good p := by
  unfold errOf at h
  by_cases h1 : 12 < p.fs.length
  · rw [if_pos h1] at h; omega
  · rw [if_neg h1] at h
    by_cases h2 : p.fs.any longF = true
    · rw [if_pos h2] at h; omega
    · rw [if_neg h2] at h
      by_cases h3 : numsOk p = false
      · rw [if_pos h3] at h; omega
      · rw [if_neg h3] at h
        by_cases h4 : p.fs.all (fun f => f.all shape) = true
        · have h5 : numsOk p = true := by simpa using h3
          have h6 := of_decide_eq_true h5
          exact ⟨by omega, by simpa using h2, by omega, by omega, by omega, h4⟩
        · rw [if_neg h4] at h; omega
def encB (p : PG) : List UInt8 := (putB p).map u8
theorem encB_eq (p : PG) : encB p = (strOfNums (putB p)).data.toList := rfl
theorem dec_enc (p : PG) (r : List UInt8) (h : errOf p = 0) : dec (encB p ++ r) = p := by
  have g := good_of h
  have h1 := g.fu
  have h2 := g.de
  have h3 := g.fl
  have h4 := g.len
  have e : encB p ++ r = u8 77 :: u8 71 :: u8 80 :: u8 (p.fu % 256) :: u8 (p.de % 256) :: ((bigB p.fl 2).map u8 ++ (u8 ((p.fs.length : Int) % 256) :: ((p.fs.flatMap funB).map u8 ++ r))) := by
    simp [encB, putB, hdr]
  have e3 : ∀ l, tk 3 0 (u8 77 :: u8 71 :: u8 80 :: l) = (5064528, l) := by
    intro l
    rfl
  rw [e]
  unfold dec
  simp only [e3, tk1, tk2 p.fl _ ⟨by omega, by omega⟩]
  rw [mod_id (by omega), mod_id (by omega), mod_id (by omega), Int.toNat_natCast, decFuns_enc _ _ g.shapes g.long]
theorem enc_inj {p q : PG} (hp : errOf p = 0) (hq : errOf q = 0) {r : List UInt8} (h : encB p = encB q ++ r) : p = q ∧ r = [] := by
  have h1 := dec_enc p [] hp
  have h2 := dec_enc q r hq
  rw [List.append_nil, h] at h1
  have h3 : q = p := h2.symm.trans h1
  refine ⟨h3.symm, ?_⟩
  rw [h3] at h
  exact List.append_cancel_left (h.symm.trans (List.append_nil _).symm)
end Go.Proofs.Ytmofaahhnokohaa.Code
