/- Walks: (*lex.text).more, close. -/
import Derived.Test.YthnmaaoafogbiaaLex1
namespace Go.Proofs.Ythnmaaoafogbiaa.Lex
set_option linter.unusedSimpArgs false
set_option linter.unusedVariables false
open Go.RowKit Go.Proofs.YthnmaaoafogbiaaW.PrintWords Go.Proofs.YthnmaaoafogbiaaW.PrintLast Go.Proofs.YthnmaaoafogbiaaW.PrintMore PLexAll Go.Proofs.YthnmaaoafogbiaaW.Canon
attribute [local go_sem] max2_mx min2_mn max_two min_two max_three min_three max_four min_four

def moreT (kind : Int) (c : UInt8) (x : TX) : TX :=
  if x.kind = 0 then { x with kind := kind, s := x.s ++ [c] } else { x with bad := x.bad || !(x.kind == kind), s := x.s ++ [c] }

theorem encode_asc (c : UInt8) (hc : c.toNat < 128) : Utf8.encode (c.toNat : Int) = bs [c] := by
  have h : ∀ n : Fin 128, Utf8.encode ((n.val : Nat) : Int) = ⟨#[UInt8.ofNat n.val]⟩ := by decide
  have h1 := h ⟨c.toNat, hc⟩
  simp only [UInt8.ofNat_toNat] at h1
  exact h1
theorem below_more {w : World} {b base : Nat} (u1 u2 u3 : Value) : Kb base b w (((w.setCell ⟨b, 2, none⟩ u1).setCell ⟨b, 6, none⟩ u2).setCell ⟨b, 3, none⟩ u3) := (((Kb.refl base b w).setB 2 u1).setB 6 u2).setB 3 u3
theorem below_more2 {w : World} {b base : Nat} (u2 u3 : Value) : Kb base b w ((w.setCell ⟨b, 6, none⟩ u2).setCell ⟨b, 3, none⟩ u3) := ((Kb.refl base b w).setB 6 u2).setB 3 u3
theorem bs_append (x y : List UInt8) : bs x ++ bs y = bs (x ++ y) := ByteArray.mk_append_mk x y
set_option maxHeartbeats 1000000 in
set_option maxRecDepth 20000 in
theorem more_calls (w : World) (b base : Nat) (x : TX) (kind : Int) (c : UInt8) (r : Int) (hr0 : r = c.toNat) (hk : kind = 1 ∨ kind = 2) (hc : c.toNat < 128) (hs : x.s.length ≤ 100000) (h : TxAt w b base x) :
    Calls Try.prog 19 #[.pointer (some ⟨b, 0, none⟩), .int .i64 kind, .int .i32 r] w fun e w' => e = .returned (.tuple #[]) ∧ TxAt w' b base (moreT kind c x) ∧ Kb base b w w' := by
  obtain ⟨v, hh, hr⟩ := h
  obtain ⟨⟨c0, c1, c2, c3, c4, c5, c6⟩, f0, f1, f2, f3, f4, f5, f6⟩ := TxAt.reads hh
  have HH := Aside0.mk hh
  have HR := Aside0.mk hr
  have HK := Aside0.mk hk
  have HC := Aside0.mk hc
  have HR0 := Aside0.mk hr0
  clear hr0
  clear hh hr hk hc
  have en : Aside0 (Utf8.encode r = bs [c]) := ⟨by rw [HR0.out]; exact encode_asc c HC.out⟩
  have hz := eq_false (show ¬ (9223372036854775807 < (bs x.s).size + (Utf8.encode r).size) by rw [en.out, bs_size, bs_size, List.length_singleton]; omega)
  have R3 := Aside0.mk (Kd.R_far (p := ⟨b, 2, none⟩) HR.out (fun _ h => h) (.int .i64 kind))
  go_enter Try.func19, Try.ntmps19
  by_cases h0 : x.kind = 0
  · have t0 : (x.kind == 0) = true := beq_iff_eq.mpr h0
    have e : ∀ c' : Bool, c' = x.bad → moreT kind c x = { x with kind := kind, bad := c', s := x.s ++ [c] } := by intro c' hc'; rw [moreT, if_pos h0, hc']
    have E := Aside0.mk e
    have h1 := blk_put HH.out 2 (.int .i64 kind) (cs' := #[v, .int .i64 x.line, .int .i64 kind, .string (bs x.s), .bool x.less, .bool x.rem, .bool x.bad]) rfl
    have H1 := Aside0.mk h1
    clear h0 e h1
    rcases hbad : x.bad
    all_goals (rw [hbad] at c6; go_wp2; go_end0; rw [E.out _ hbad.symm, en.out, bs_append])
    · have h2 := blk_put H1.out 6 (.bool false) (cs' := #[v, .int .i64 x.line, .int .i64 kind, .string (bs x.s), .bool x.less, .bool x.rem, .bool false]) rfl
      have h3 := blk_put h2 3 (.string (bs (x.s ++ [c]))) (cs' := #[v, .int .i64 x.line, .int .i64 kind, .string (bs (x.s ++ [c])), .bool x.less, .bool x.rem, .bool false]) rfl
      exact ⟨rfl, ⟨v, h3, Kd.R_far (Kd.R_far R3.out (fun _ h => h) _) (fun _ h => h) _⟩, below_more _ _ _⟩
    · have h2 := blk_put H1.out 6 (.bool true) (cs' := #[v, .int .i64 x.line, .int .i64 kind, .string (bs x.s), .bool x.less, .bool x.rem, .bool true]) rfl
      have h3 := blk_put h2 3 (.string (bs (x.s ++ [c]))) (cs' := #[v, .int .i64 x.line, .int .i64 kind, .string (bs (x.s ++ [c])), .bool x.less, .bool x.rem, .bool true]) rfl
      exact ⟨rfl, ⟨v, h3, Kd.R_far (Kd.R_far R3.out (fun _ h => h) _) (fun _ h => h) _⟩, below_more _ _ _⟩
  · have t0 : (x.kind == 0) = false := beq_eq_false_iff_ne.mpr h0
    have e : ∀ c' : Bool, c' = (x.bad || !(x.kind == kind)) → moreT kind c x = { x with bad := c', s := x.s ++ [c] } := by intro c' hc'; rw [moreT, if_neg h0, hc']
    have E := Aside0.mk e
    clear h0 e
    rcases hbad : x.bad
    · rw [hbad] at c6
      go_wp2
      go_end0
      rw [E.out (x.kind != kind) (by rw [hbad]; rfl), en.out, bs_append]
      have h2 := blk_put HH.out 6 (.bool (x.kind != kind)) (cs' := #[v, .int .i64 x.line, .int .i64 x.kind, .string (bs x.s), .bool x.less, .bool x.rem, .bool (x.kind != kind)]) rfl
      have h3 := blk_put h2 3 (.string (bs (x.s ++ [c]))) (cs' := #[v, .int .i64 x.line, .int .i64 x.kind, .string (bs (x.s ++ [c])), .bool x.less, .bool x.rem, .bool (x.kind != kind)]) rfl
      exact ⟨rfl, ⟨v, h3, Kd.R_far (Kd.R_far HR.out (fun _ h => h) _) (fun _ h => h) _⟩, below_more2 _ _⟩
    · rw [hbad] at c6
      go_wp2
      go_end0
      rw [E.out true (by rw [hbad]; rfl), en.out, bs_append]
      have h2 := blk_put HH.out 6 (.bool true) (cs' := #[v, .int .i64 x.line, .int .i64 x.kind, .string (bs x.s), .bool x.less, .bool x.rem, .bool true]) rfl
      have h3 := blk_put h2 3 (.string (bs (x.s ++ [c]))) (cs' := #[v, .int .i64 x.line, .int .i64 x.kind, .string (bs (x.s ++ [c])), .bool x.less, .bool x.rem, .bool true]) rfl
      exact ⟨rfl, ⟨v, h3, Kd.R_far (Kd.R_far HR.out (fun _ h => h) _) (fun _ h => h) _⟩, below_more2 _ _⟩
end Go.Proofs.Ythnmaaoafogbiaa.Lex
