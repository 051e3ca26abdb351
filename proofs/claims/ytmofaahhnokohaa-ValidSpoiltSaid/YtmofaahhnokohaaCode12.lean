/- Walks: numbers and instructions read, by lists of bytes. -/
import Derived.Test.YtmofaahhnokohaaCode10
import Derived.Test.YtmofaahhnokohaaPCodeAllx2
import Derived.Lib.Bytes
namespace Go.Proofs.Ytmofaahhnokohaa.Code
set_option linter.unusedSimpArgs false
set_option linter.unusedVariables false
open Go.RowKit Go.Proofs.YtmofaahhnokohaaW.PrintWords Go.Proofs.YtmofaahhnokohaaW.PrintLast Go.Proofs.YtmofaahhnokohaaW.PrintMore PCodeAll

/-- Bytes as a string. -/
def bs (l : List UInt8) : ByteArray := ⟨l.toArray⟩
theorem bs_toList (l : List UInt8) : (bs l).toList = l := by
  rw [Lib.toList_data]
  rfl
theorem bs_size (l : List UInt8) : (bs l).size = l.length := rfl
theorem bs_bt (b : UInt8) (l : List UInt8) : bt (bs (b :: l)) 0 = (b.toNat : Int) := by
  rw [bt, dif_pos (by rw [bs_size, List.length_cons]; omega)]
  rfl
theorem bs_tail (b : UInt8) (l : List UInt8) : (bs (b :: l)).extract 1 (bs (b :: l)).size = bs l := by
  apply ByteArray.ext
  rw [ByteArray.data_extract]
  simp [bs, ByteArray.size]
theorem tk_small : ∀ (n : Nat) (v : Int) (l : List UInt8), 0 ≤ v → 0 ≤ (tk n v l).1 ∧ (tk n v l).1 < (v + 1) * 256 ^ n := by
  intro n
  induction n with
  | zero => intro v l h; simp only [tk]; omega
  | succ n ih =>
    intro v l h
    cases l with
    | nil =>
      have := ih (v * 256) [] (by omega)
      simp only [tk]
      refine ⟨this.1, Int.lt_of_lt_of_le this.2 ?_⟩
      rw [Int.pow_succ, Int.mul_comm (256 ^ n) 256, ← Int.mul_assoc]
      exact Int.mul_le_mul_of_nonneg_right (by omega) (Int.le_of_lt (Int.pow_pos (by omega)))
    | cons b l =>
      have hb : (b.toNat : Int) < 256 := by have := b.toNat_lt; omega
      have := ih (v * 256 + b.toNat) l (by omega)
      simp only [tk]
      refine ⟨this.1, Int.lt_of_lt_of_le this.2 ?_⟩
      rw [Int.pow_succ, Int.mul_comm (256 ^ n) 256, ← Int.mul_assoc]
      exact Int.mul_le_mul_of_nonneg_right (by omega) (Int.le_of_lt (Int.pow_pos (by omega)))
theorem tk_len : ∀ (n : Nat) (v : Int) (l : List UInt8), (tk n v l).2.length = l.length - n := by
  intro n
  induction n with
  | zero => intro v l; simp [tk]
  | succ n ih =>
    intro v l
    cases l with
    | nil => simp only [tk]; rw [ih]; simp
    | cons b l => simp only [tk]; rw [ih, List.length_cons]; omega
theorem take_l0 (N : Nat) (hN : N ≤ 4) : ∀ (m i k : Nat) (v : Int) (l : List UInt8), i + m = N → m < k → 0 ≤ v → v < 256 ^ i →
    code_reader_take.l0 k v N i (bs l) = some ((tk m v l).1, bs (tk m v l).2) := by
  intro m
  induction m with
  | zero =>
    intro i k v l hi hk h0 h1
    obtain ⟨k, rfl⟩ : ∃ m, k = m + 1 := ⟨k - 1, by omega⟩
    simp only [code_reader_take.l0]
    rw [if_neg (by omega)]
    rfl
  | succ m ih =>
    intro i k v l hi hk h0 h1
    obtain ⟨k, rfl⟩ : ∃ m, k = m + 1 := ⟨k - 1, by omega⟩
    have hp : (256 : Int) ^ i ≤ 16777216 := by
      have : i = 0 ∨ i = 1 ∨ i = 2 ∨ i = 3 := by omega
      rcases this with rfl | rfl | rfl | rfl <;> decide
    have hw : wrap64 (v * 256) = v * 256 := wrap64_id _ (by omega)
    have hi1 : wrap64 ((i : Int) + 1) = ((i + 1 : Nat) : Int) := by rw [wrap64_id _ (by omega)]; rfl
    simp only [code_reader_take.l0]
    rw [if_pos (by omega), bs_toList, hw, hi1]
    cases l with
    | nil =>
      rw [if_pos rfl, ih (i + 1) k (v * 256) [] (by omega) (by omega) (by omega) (by rw [Int.pow_succ]; omega)]
      rfl
    | cons b l =>
      have hb := b.toNat_lt
      have hwb : wrap64 (b.toNat : Int) = b.toNat := wrap64_id _ (by omega)
      have hj : Go.bits .or .i64 (v * 256) (b.toNat : Int) = v * 256 + b.toNat :=
        Go.bits_join .i64 40 (by decide) (fun n h1 h2 => by rw [IntKind.wrap_i64]; omega) 8 (v * 256) b.toNat (by omega) (by show v * 256 % 256 = 0; omega) (by show v * 256 < 1099511627776; omega) (by omega) (by show (b.toNat : Int) < 256; omega) (by show (b.toNat : Int) < 1099511627776; omega)
      rw [if_neg (by simp), if_pos (by rw [bs_size, List.length_cons]; omega), if_pos (by rw [bs_size, List.length_cons]; omega), bs_bt, hwb, hj, bs_tail,
        ih (i + 1) k (v * 256 + b.toNat) l (by omega) (by omega) (by omega) (by rw [Int.pow_succ]; omega)]
      rfl
theorem take_f (n : Nat) (hn : n ≤ 4) (l : List UInt8) : code_reader_take.f 5 (bs l) n = some ((tk n 0 l).1, bs (tk n 0 l).2) :=
  take_l0 n hn n 0 5 0 l (by omega) (by omega) (by omega) (by decide)
theorem take_calls (n : Nat) (hn : n ≤ 4) (l : List UInt8) (g : Nat) (w0 w : World) (hI : IsS71 w0 w g (bs l)) (hB : Below w0.heap.size w0 w) :
    Calls Try.prog 35 #[.pointer (some ⟨g, 0, none⟩), .int .i64 n] w fun e w' => e = .returned (.int .i64 (tk n 0 l).1) ∧ IsS71 w0 w' g (bs (tk n 0 l).2) ∧ Below w0.heap.size w0 w' ∧ KeepBut w w' g none :=
  code_reader_take.calls 5 g (bs l) n _ _ w0 w hI hB (take_f n hn l)
theorem ins_f (l : List UInt8) : code_reader_ins.f 5 (bs l) = some ((decIns l).1.f0, (decIns l).1.f1, (decIns l).1.f2, (decIns l).1.f3, bs (decIns l).2) := by
  have t1 := fun l => take_f 1 (by omega) l
  have t4 := fun l => take_f 4 (by omega) l
  have e1 : ((1 : Nat) : Int) = 1 := rfl
  have e4 : ((4 : Nat) : Int) = 4 := rfl
  rw [e1] at t1
  rw [e4] at t4
  unfold code_reader_ins.f decIns
  simp only [t1, t4, Option.bind_some]
  by_cases h : (tk 1 0 l).1 = 1
  · rw [if_pos h, if_pos h]
    rw [wrap64_id (wrap32 _) (by simp only [wrap32]; omega)]
  · rw [if_neg h, if_neg h]
theorem rins_calls (l : List UInt8) (g : Nat) (w0 w : World) (hI : IsS71 w0 w g (bs l)) (hB : Below w0.heap.size w0 w) :
    Calls Try.prog 36 #[.pointer (some ⟨g, 0, none⟩)] w fun e w' => e = .returned (.agg #[.int .i64 (decIns l).1.f0, .int .i64 (decIns l).1.f1, .int .i64 (decIns l).1.f2, .int .i64 (decIns l).1.f3]) ∧ IsS71 w0 w' g (bs (decIns l).2) ∧ Below w0.heap.size w0 w' ∧ KeepBut w w' g none :=
  code_reader_ins.calls 5 g (bs l) _ _ _ _ _ w0 w hI hB (ins_f l)
theorem decIns_len (l : List UInt8) : (decIns l).2.length ≤ l.length - 1 := by
  unfold decIns
  simp only
  split <;> simp only [tk_len] <;> omega
end Go.Proofs.Ytmofaahhnokohaa.Code
