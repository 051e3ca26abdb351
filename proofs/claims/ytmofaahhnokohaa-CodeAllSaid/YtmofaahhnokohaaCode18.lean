/- The plain law of the reference's reading: what is put is got. -/
import Derived.Test.YtmofaahhnokohaaCode10
import Derived.Test.YtmofaahhnokohaaCode13
namespace Go.Proofs.Ytmofaahhnokohaa.Code
set_option linter.unusedSimpArgs false
set_option linter.unusedVariables false
open Go.RowKit Go.Proofs.YtmofaahhnokohaaW.PrintWords PCodeAll

def sgn (v : Int) : Int := if 2147483648 ≤ v then v - 4294967296 else v
def rIns : List UInt8 → S26 × List UInt8
  | a :: b :: c :: d :: r =>
    if a.toNat = 1 then
      match r with
      | e :: g :: r2 => (⟨(a.toNat : Int), (b.toNat : Int), sgn (((c.toNat : Int) * 16777216 + (d.toNat : Int) * 65536 + (e.toNat : Int) * 256) + (g.toNat : Int)), 0⟩, r2)
      | _ => (⟨(a.toNat : Int), (b.toNat : Int), (c.toNat : Int), (d.toNat : Int)⟩, r)
    else (⟨(a.toNat : Int), (b.toNat : Int), (c.toNat : Int), (d.toNat : Int)⟩, r)
  | _ => (z26, [])
theorem rIns_1 (a b c d e g : UInt8) (r : List UInt8) (h : a.toNat = 1) : rIns (a :: b :: c :: d :: e :: g :: r) = (⟨(a.toNat : Int), (b.toNat : Int), sgn (((c.toNat : Int) * 16777216 + (d.toNat : Int) * 65536 + (e.toNat : Int) * 256) + (g.toNat : Int)), 0⟩, r) := by
  show (if a.toNat = 1 then _ else _) = _
  rw [if_pos h]
theorem rIns_0 (a b c d : UInt8) (r : List UInt8) (h : ¬ (a.toNat = 1 ∧ 2 ≤ r.length)) : rIns (a :: b :: c :: d :: r) = (⟨(a.toNat : Int), (b.toNat : Int), (c.toNat : Int), (d.toNat : Int)⟩, r) := by
  show (if a.toNat = 1 then _ else _) = _
  by_cases ha : a.toNat = 1
  · rw [if_pos ha]
    match r, h with
    | [], _ => rfl
    | [_], _ => rfl
    | _ :: _ :: _, h => exact absurd ⟨ha, by simp⟩ h
  · rw [if_neg ha]
def rFun : Nat → List UInt8 → List S26 × List UInt8
  | 0, l => ([], l)
  | k + 1, l => if 4 ≤ l.length then ((rIns l).1 :: (rFun k (rIns l).2).1, (rFun k (rIns l).2).2) else ([], l)
def rFuns : Nat → List UInt8 → List (List S26)
  | 0, _ => []
  | _ + 1, [] => []
  | k + 1, b :: l => (rFun b.toNat l).1 :: rFuns k (rFun b.toNat l).2

theorem u8_nat (n : Int) : (u8 (n % 256)).toNat = (n % 256).toNat := by
  have := u8_val n
  omega
theorem rIns_enc (x : S26) (r : List UInt8) (h : shape x = true) : rIns ((insB x).map u8 ++ r) = (x, r) := by
  have ho := shape_op h
  simp only [shape, Bool.and_eq_true] at h
  obtain ⟨_, h1, h2, h3⟩ := h
  by_cases hc : x.f0 = 1
  · rw [hc] at h1 h2 h3
    have f1 := fits_small h1 (by decide)
    have f3 : x.f3 = 0 := by
      have : (kinds 1).2.2 = 0 := by decide
      rw [this, fits, if_neg (by decide), decide_eq_true_eq] at h3
      have : most 0 = 1 := by decide
      omega
    have f2 : -2147483648 ≤ x.f2 ∧ x.f2 ≤ 2147483647 := by
      have : (kinds 1).2.1 = 6 := by decide
      rw [this, fits, if_pos rfl, decide_eq_true_eq] at h2
      exact h2
    have e : (insB x).map u8 ++ r = u8 (x.f0 % 256) :: u8 (x.f1 % 256) :: u8 (x.f2 / 16777216 % 256) :: u8 (x.f2 / 65536 % 256) :: u8 (x.f2 / 256 % 256) :: u8 (x.f2 % 256) :: r := by
      simp only [insB, if_pos hc, bigB, byteAt_0, byteAt_1, byteAt_2, byteAt_3, List.map_append, List.map, List.cons_append, List.nil_append]
    rw [e, rIns_1 _ _ _ _ _ _ _ (by rw [u8_nat, hc]; rfl)]
    simp only [u8_val]
    have e0 : x.f0 % 256 = x.f0 := mod_id (by omega)
    have e1 : x.f1 % 256 = x.f1 := mod_id (by omega)
    have e2 : sgn (((x.f2 / 16777216 % 256) * 16777216 + (x.f2 / 65536 % 256) * 65536 + (x.f2 / 256 % 256) * 256) + x.f2 % 256) = x.f2 := by
      unfold sgn
      split <;> omega
    rw [e0, e1, e2]
    cases x
    simp only at f3 ⊢
    rw [f3]
  · obtain ⟨k1, k2, k3⟩ := kinds_small x.f0 hc
    have f1 := fits_small h1 k1
    have f2 := fits_small h2 k2
    have f3 := fits_small h3 k3
    have e : (insB x).map u8 ++ r = u8 (x.f0 % 256) :: (u8 (x.f1 % 256) :: (u8 (x.f2 % 256) :: (u8 (x.f3 % 256) :: r))) := by
      simp only [insB, if_neg hc, List.map_append, List.map, List.cons_append, List.nil_append]
    rw [e, rIns_0 _ _ _ _ _ (fun h => by have := h.1; rw [u8_nat, mod_id (by omega)] at this; omega)]
    simp only [u8_val]
    rw [mod_id (by omega), mod_id (by omega), mod_id (by omega), mod_id (by omega)]
theorem insB_len4 (x : S26) : 4 ≤ ((insB x).map u8).length := by
  rw [List.length_map]
  unfold insB
  split
  · rw [List.length_append, bigB_len]; simp
  · simp
theorem rFun_enc (f : List S26) (r : List UInt8) (h : f.all shape = true) : rFun f.length ((f.flatMap insB).map u8 ++ r) = (f, r) := by
  induction f with
  | nil => rfl
  | cons x f ih =>
    rw [List.all_cons, Bool.and_eq_true] at h
    rw [List.flatMap_cons, List.map_append, List.append_assoc, List.length_cons]
    have hi := rIns_enc x ((f.flatMap insB).map u8 ++ r) h.1
    have hl := insB_len4 x
    unfold rFun
    rw [if_pos (by rw [List.length_append]; omega)]
    simp only [hi, ih h.2]
theorem rFuns_enc (fs : List (List S26)) (r : List UInt8) (h : fs.all (fun f => f.all shape) = true) (hl : fs.any longF = false) : rFuns fs.length ((fs.flatMap funB).map u8 ++ r) = fs := by
  induction fs with
  | nil => rfl
  | cons f fs ih =>
    rw [List.all_cons, Bool.and_eq_true] at h
    rw [List.any_cons, Bool.or_eq_false_iff] at hl
    have hf : f.length ≤ 40 := by
      have := hl.1
      simp only [longF, decide_eq_false_iff_not] at this
      omega
    rw [List.flatMap_cons, List.map_append, List.append_assoc, List.length_cons, funB, List.map_cons, List.cons_append]
    have e : (u8 ((f.length : Int) % 256)).toNat = f.length := by rw [u8_nat]; omega
    simp only [rFuns, e, rFun_enc f _ h.1, ih h.2 hl.2]
theorem rdec_enc {p : PG} {l : List UInt8} (h : errOf p = 0) (hl : encB p = l) : ∃ b0 b1 b2 b3 b4 b5 b6 b7 r, l = b0 :: b1 :: b2 :: b3 :: b4 :: b5 :: b6 :: b7 :: r ∧ (b3.toNat : Int) = p.fu ∧ (b4.toNat : Int) = p.de ∧ (b5.toNat : Int) * 256 + (b6.toNat : Int) = p.fl ∧ rFuns b7.toNat r = p.fs := by
  have g := good_of h
  have h1 := g.fu
  have h2 := g.de
  have h3 := g.fl
  have h4 := g.len
  have e : encB p = u8 77 :: u8 71 :: u8 80 :: u8 (p.fu % 256) :: u8 (p.de % 256) :: u8 (p.fl / 256 % 256) :: u8 (p.fl % 256) :: u8 ((p.fs.length : Int) % 256) :: (p.fs.flatMap funB).map u8 := by
    simp [encB, putB, hdr, bigB, byteAt_0, byteAt_1]
  refine ⟨_, _, _, _, _, _, _, _, _, hl.symm.trans e, ?_, ?_, ?_, ?_⟩
  · rw [u8_val]; omega
  · rw [u8_val]; omega
  · rw [u8_val, u8_val]; omega
  · have e2 : (u8 ((p.fs.length : Int) % 256)).toNat = p.fs.length := by rw [u8_nat]; omega
    have := rFuns_enc p.fs [] g.shapes g.long
    rw [List.append_nil] at this
    rw [e2, this]
/-- What the reference reads is a program's bytes just if the reader's is. -/
theorem rget_ok {l : List UInt8} {q : PG} (h0 : errOf q = 0) (h1 : encB q = l) : getP l = q ∧ getE l = 0 := by
  have hd := dec_enc q [] h0
  rw [List.append_nil, h1] at hd
  have hk : GetOk l := ⟨by rw [hd]; exact h0, by rw [hd]; exact h1⟩
  rw [(getP_ok hk).1, (getP_ok hk).2, hd]
  exact ⟨rfl, rfl⟩
theorem drop_four (l : List UInt8) (a : Nat) (h : a + 4 ≤ l.length) : l.drop a = l[a]'(by omega) :: l[a + 1]'(by omega) :: l[a + 2]'(by omega) :: l[a + 3]'(by omega) :: l.drop (a + 4) := by
  rw [List.drop_eq_getElem_cons (by omega : a < l.length), List.drop_eq_getElem_cons (by omega : a + 1 < l.length), List.drop_eq_getElem_cons (by omega : a + 1 + 1 < l.length), List.drop_eq_getElem_cons (by omega : a + 1 + 1 + 1 < l.length)]
theorem drop_two (l : List UInt8) (a : Nat) (h : a + 2 ≤ l.length) : l.drop a = l[a]'(by omega) :: l[a + 1]'(by omega) :: l.drop (a + 2) := by
  rw [List.drop_eq_getElem_cons (by omega : a < l.length), List.drop_eq_getElem_cons (by omega : a + 1 < l.length)]
theorem rIns_short (l : List UInt8) (a b0 b1 b2 b3 : Nat) (h : a + 4 ≤ l.length) (h0 : (l[a]'(by omega)).toNat = b0) (h1 : (l[a + 1]'(by omega)).toNat = b1) (h2 : (l[a + 2]'(by omega)).toNat = b2) (h3 : (l[a + 3]'(by omega)).toNat = b3)
    (hn : ¬ (b0 = 1 ∧ a + 6 ≤ l.length)) : rIns (l.drop a) = (⟨b0, b1, b2, b3⟩, l.drop (a + 4)) := by
  rw [drop_four l a h, rIns_0 _ _ _ _ _ (fun hh => hn ⟨by rw [← h0]; exact hh.1, by have := hh.2; rw [List.length_drop] at this; omega⟩), h0, h1, h2, h3]
theorem rIns_long (l : List UInt8) (a b1 b2 b3 b4 b5 : Nat) (h : a + 6 ≤ l.length) (h0 : (l[a]'(by omega)).toNat = 1) (h1 : (l[a + 1]'(by omega)).toNat = b1) (h2 : (l[a + 2]'(by omega)).toNat = b2) (h3 : (l[a + 3]'(by omega)).toNat = b3)
    (h4 : (l[a + 4]'(by omega)).toNat = b4) (h5 : (l[a + 4 + 1]'(by omega)).toNat = b5) : rIns (l.drop a) = (⟨1, b1, sgn (((b2 : Int) * 16777216 + (b3 : Int) * 65536 + (b4 : Int) * 256) + (b5 : Int)), 0⟩, l.drop (a + 6)) := by
  rw [drop_four l a (by omega), drop_two l (a + 4) (by omega), rIns_1 _ _ _ _ _ _ _ h0, h0, h1, h2, h3, h4, h5]
  rfl
theorem rFun_go (k : Nat) (l : List UInt8) (h : 4 ≤ l.length) : rFun (k + 1) l = ((rIns l).1 :: (rFun k (rIns l).2).1, (rFun k (rIns l).2).2) := by
  rw [rFun, if_pos h]
theorem rFun_stop (k : Nat) (l : List UInt8) (h : k = 0 ∨ l.length < 4) : rFun k l = ([], l) := by
  cases k with
  | zero => rfl
  | succ k => rw [rFun, if_neg (by omega)]
theorem rFuns_stop (k : Nat) (l : List UInt8) (h : k = 0 ∨ l = []) : rFuns k l = [] := by
  rcases h with rfl | rfl
  · rfl
  · cases k <;> rfl
theorem rFuns_go (k : Nat) (l : List UInt8) (a : Nat) (h : a < l.length) : rFuns (k + 1) (l.drop a) = (rFun (l[a]'h).toNat (l.drop (a + 1))).1 :: rFuns k (rFun (l[a]'h).toNat (l.drop (a + 1))).2 := by
  rw [List.drop_eq_getElem_cons h]
  rfl
end Go.Proofs.Ytmofaahhnokohaa.Code
