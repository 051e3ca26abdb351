/- Plain laws: words, numbers and signs one behind the other; three rows of numbers. -/
import Derived.Test.YthnmaaoafogbiaaLexA2
namespace Go.Proofs.Ythnmaaoafogbiaa.Lex
set_option linter.unusedSimpArgs false
set_option linter.unusedVariables false
open Go.RowKit Go.Proofs.YthnmaaoafogbiaaW.PrintWords Go.Proofs.YthnmaaoafogbiaaW.PrintLast Go.Proofs.YthnmaaoafogbiaaW.PrintMore PLexAll Go.Proofs.YthnmaaoafogbiaaW.Canon

/-- A text whose last word, if one is under way, may end: its tokens, its line. -/
def Ln (s : List UInt8) (L : List S31) (n : Int) : Prop := ∃ x, runT s x0 = .inr x ∧ Fine x ∧ x.rem = false ∧ endT x = cleanT L n
theorem Ln.nil : Ln [] [] 1 := ⟨x0, rfl, Fine.x0, rfl, rfl⟩
theorem run_app {a b : List UInt8} {x y : TX} (h : runT a x0 = .inr x) (h2 : runT b x = .inr y) : runT (a ++ b) x0 = .inr y := by rw [runT_append, h]; exact h2
theorem clean_fine (L : List S31) (n : Int) : Fine (cleanT L n) := ⟨rfl, .inl rfl, fun _ => ⟨rfl, rfl⟩⟩
theorem close_ln {x : TX} {L : List S31} {n : Int} (h : endT x = cleanT L n) : closeT x = cleanT (shutL n L) n := by
  unfold closeT
  rw [h]
  rfl
theorem Ln.newline {s : List UInt8} {L : List S31} {n : Int} (h : Ln s L n) : Ln (s ++ [10]) (shutL n L) (n + 1) := by
  obtain ⟨x, h1, h2, h3, h4⟩ := h
  have hc := close_ln h4
  refine ⟨cleanT (shutL n L) (n + 1), run_app h1 ?_, clean_fine _ _, rfl, rfl⟩
  have hb : byteT 10 x = cleanT (shutL n L) n := hc
  have hn : nextT 10 x = cleanT (shutL n L) (n + 1) := by
    show ({ closeT x with line := (closeT x).line + 1 } : TX) = _
    rw [hc]
    rfl
  rw [runT_cons, hb, hn, if_neg (show ¬ (cleanT (shutL n L) n).bad = true from Bool.false_ne_true)]
  rfl
theorem run_blank1 {x : TX} {L : List S31} {n : Int} (h3 : x.rem = false) (h4 : endT x = cleanT L n) (b : List UInt8) : runT (32 :: b) x = runT b (cleanT L n) := by
  have hb : byteT 32 x = cleanT L n := by
    rw [byteT_plain (by decide) h3, plain_blank (by decide), h4]
  rw [runT_cons, nextT_eq (by decide), hb, if_neg (show ¬ (cleanT L n).bad = true from Bool.false_ne_true)]
theorem Ln.word {s : List UInt8} {L : List S31} {n : Int} (h : Ln s L n) (ws : List UInt8) (hw : ∀ c ∈ ws, isLB c = true) (hne : ws ≠ []) : Ln (s ++ 32 :: ws) (L ++ [⟨1, bs ws, 0, n⟩]) n := by
  obtain ⟨x, h1, h2, h3, h4⟩ := h
  refine ⟨⟨L, n, 1, ws, false, false, false⟩, run_app h1 ?_, ⟨rfl, .inr (.inl rfl), fun h => by cases h⟩, rfl, rfl⟩
  rw [run_blank1 h3 h4, run_word ws hw hne]
theorem num1 (d : UInt8) (hd : isDg d) : numOf [d] = (d.toNat : Int) - 48 := by
  obtain ⟨a, b⟩ := hd
  show mn (0 * 10 + (((d.toNat : Nat) : Int) - 48) % 256) 2147483649 = _
  simp only [mn]
  split <;> omega
theorem Ln.num {s : List UInt8} {L : List S31} {n : Int} (h : Ln s L n) (d : UInt8) (hd : isDg d) : Ln (s ++ [32, d]) (L ++ [⟨2, bs [], (d.toNat : Int) - 48, n⟩]) n := by
  obtain ⟨x, h1, h2, h3, h4⟩ := h
  have hd' := hd
  obtain ⟨a, b⟩ := hd'
  refine ⟨⟨L, n, 2, [d], false, false, false⟩, run_app h1 ?_, ⟨rfl, .inr (.inr rfl), fun h => by cases h⟩, rfl, ?_⟩
  · rw [run_blank1 h3 h4, run_digits0 [d] (fun c hc => by rw [List.mem_singleton] at hc; subst hc; exact hd) (by simp)]
  · show (⟨L ++ [⟨2, bs [], signed false (numOf [d]), n⟩], n, 0, [], false, false, wrong false [d] (signed false (numOf [d]))⟩ : TX) = _
    have hw : wrong false [d] (signed false (numOf [d])) = false := by
      rw [num1 d hd]
      simp only [wrong, signed]
      simp
      omega
    rw [hw]
    rw [show signed false (numOf [d]) = numOf [d] from rfl, num1 d hd]
    rfl
theorem Ln.sign {s : List UInt8} {L : List S31} {n : Int} (h : Ln s L n) : Ln (s ++ [44]) (L ++ [⟨3, bs [44], 0, n⟩]) n := by
  obtain ⟨x, h1, h2, h3, h4⟩ := h
  refine ⟨cleanT (L ++ [⟨3, bs [44], 0, n⟩]) n, run_app h1 ?_, clean_fine _ _, rfl, rfl⟩
  have hb : byteT 44 x = cleanT (L ++ [⟨3, bs [44], 0, n⟩]) n := by
    rw [byteT_plain (by decide) h3, plain_sign (by decide), h4]
    rfl
  rw [runT_cons, nextT_eq (by decide), hb, if_neg (show ¬ (cleanT (L ++ [⟨3, bs [44], 0, n⟩]) n).bad = true from Bool.false_ne_true)]
  rfl
theorem Ln.fin {s : List UInt8} {L : List S31} {n : Int} (h : Ln s L n) (hs : s.length ≤ 8192) : allT (bs s) = .inr (shutL n L) := by
  obtain ⟨x, h1, h2, h3, h4⟩ := h
  have hg : goT s x0 = .inr (closeT x) := by
    rw [goT_run, h1]
    simp only
    rw [close_ln h4, if_neg (show ¬ (cleanT (shutL n L) n).bad = true from Bool.false_ne_true)]
  rw [allT_inr hs hg, close_ln h4]
  rfl
/-- Three rows of numbers, each its own. -/
structure Three (w0 w : World) (v6 v7 v8 : Value) (a b c : List Int) : Prop where
  r6 : (Kd.int .i64).R 3 w w0.heap.size (fun _ => True) v6 a
  r7 : (Kd.int .i64).R 3 w w0.heap.size (fun _ => True) v7 b
  r8 : (Kd.int .i64).R 3 w w0.heap.size (fun _ => True) v8 c
  s67 : ∀ k, v6.ownBlock = some k → some k ≠ v7.ownBlock
  s68 : ∀ k, v6.ownBlock = some k → some k ≠ v8.ownBlock
  s78 : ∀ k, v7.ownBlock = some k → some k ≠ v8.ownBlock
  below : Below w0.heap.size w0 w
theorem Three.nil (w : World) : Three w w (.slice none 0 0) (.slice none 0 0) (.slice none 0 0) [] [] [] :=
  ⟨Kd.R_nil _ _ _ _ _, Kd.R_nil _ _ _ _ _, Kd.R_nil _ _ _ _ _, fun k h => (by cases h), fun k h => (by cases h), fun k h => (by cases h), Below.refl _ _⟩
theorem new_ne {W : World} {v v1 u : Value} {base : Nat} {ok : Nat → Prop} {xs : List Int} (hat : v1.ownBlock = v.ownBlock ∨ ∃ b, v1.ownBlock = some b ∧ W.heap.size ≤ b) (h : ∀ k, v.ownBlock = some k → some k ≠ u.ownBlock) (hu : (Kd.int .i64).R 3 W base ok u xs) :
    ∀ k, v1.ownBlock = some k → some k ≠ u.ownBlock := by
  intro k hk
  rcases hat with he | ⟨b, hb, hle⟩
  · exact h k (he ▸ hk)
  · rw [hb] at hk
    obtain rfl := Option.some.inj hk
    intro hu2
    have := Kd.R_lt hu b hu2.symm
    omega
theorem ne_symm' {v u : Value} (h : ∀ k, v.ownBlock = some k → some k ≠ u.ownBlock) : ∀ k, u.ownBlock = some k → some k ≠ v.ownBlock := fun k hk he => h k he.symm hk.symm
variable {w0 W w1 : World} {v6 v7 v8 v1 : Value} {a b c : List Int} {p : Int}
theorem Three.push6 (h : Three w0 W v6 v7 v8 a b c) (ho : (Kd.int .i64).R 3 w1 w0.heap.size (fun _ => True) v1 (a ++ [p])) (hb : Below w0.heap.size w0 w1) (hg : W.grownBy w1 v6.ownBlock) (hat : v1.ownBlock = v6.ownBlock ∨ ∃ b, v1.ownBlock = some b ∧ W.heap.size ≤ b) :
    Three w0 w1 v1 v7 v8 (a ++ [p]) b c :=
  ⟨ho, Kd.R_grown2 h.r7 rfl hg h.s67, Kd.R_grown2 h.r8 rfl hg h.s68, new_ne hat h.s67 h.r7, new_ne hat h.s68 h.r8, h.s78, hb⟩
theorem Three.push7 (h : Three w0 W v6 v7 v8 a b c) (ho : (Kd.int .i64).R 3 w1 w0.heap.size (fun _ => True) v1 (b ++ [p])) (hb : Below w0.heap.size w0 w1) (hg : W.grownBy w1 v7.ownBlock) (hat : v1.ownBlock = v7.ownBlock ∨ ∃ b, v1.ownBlock = some b ∧ W.heap.size ≤ b) :
    Three w0 w1 v6 v1 v8 a (b ++ [p]) c :=
  ⟨Kd.R_grown2 h.r6 rfl hg (ne_symm' h.s67), ho, Kd.R_grown2 h.r8 rfl hg h.s78, ne_symm' (new_ne hat (ne_symm' h.s67) h.r6), h.s68, new_ne hat h.s78 h.r8, hb⟩
theorem Three.push8 (h : Three w0 W v6 v7 v8 a b c) (ho : (Kd.int .i64).R 3 w1 w0.heap.size (fun _ => True) v1 (c ++ [p])) (hb : Below w0.heap.size w0 w1) (hg : W.grownBy w1 v8.ownBlock) (hat : v1.ownBlock = v8.ownBlock ∨ ∃ b, v1.ownBlock = some b ∧ W.heap.size ≤ b) :
    Three w0 w1 v6 v7 v1 a b (c ++ [p]) :=
  ⟨Kd.R_grown2 h.r6 rfl hg (ne_symm' h.s68), Kd.R_grown2 h.r7 rfl hg (ne_symm' h.s78), ho, h.s67, ne_symm' (new_ne hat (ne_symm' h.s68) h.r6), ne_symm' (new_ne hat (ne_symm' h.s78) h.r7), hb⟩
end Go.Proofs.Ythnmaaoafogbiaa.Lex
