/- Walk: a program by numbers. -/
import Derived.Test.YtmofaahhnokohaaCode7
namespace Go.Proofs.Ytmofaahhnokohaa.Code
set_option linter.unusedSimpArgs false
set_option linter.unusedVariables false
open Go.RowKit Go.Proofs.YtmofaahhnokohaaW.PrintWords Go.Proofs.YtmofaahhnokohaaW.PrintLast Go.Proofs.YtmofaahhnokohaaW.PrintMore PCodeAll Go.Proofs.YtmofaahhnokohaaW.CanonE
attribute [local go_sem] max2_mx min2_mn max_two min_two max_three min_three max_four min_four

/-- What an instruction of a program by numbers is. -/
structure XOk (cancels : Bool) (x : S26) (funcs futs n : Int) : Prop where
  ok : shape x = true
  can : x.f0 = 13 → cancels = true
  jump : x.f0 = 7 → x.f1 < n
  zero : x.f0 = 8 → x.f2 < n
  fork : x.f0 = 9 → x.f2 < funcs
  set : x.f0 = 11 → x.f1 < futs
  get : x.f0 = 12 → x.f2 < futs
theorem InsOk.x {x : S26} {funcs futs n : Int} (h : InsOk x funcs futs n) (c : Bool) : XOk c x funcs futs n :=
  ⟨h.ok, fun he => absurd he h.plain.1, h.jump, h.zero, h.fork, h.set, h.get⟩
structure FunOk (cancels : Bool) (funcs futs : Int) (f : List S26) : Prop where
  len : 2 ≤ f.length ∧ f.length ≤ 11
  ins : ∀ x, x ∈ f → XOk cancels x funcs futs f.length
  last : ∃ g r, f = g ++ [⟨15, r, 0, 0⟩]
structure ProgOk (cancels : Bool) (p : PG) : Prop where
  len : 1 ≤ p.fs.length ∧ p.fs.length ≤ 4
  fu : 0 ≤ p.fu ∧ p.fu ≤ 3
  de : 0 ≤ p.de ∧ p.de ≤ 3
  fl : 5 ≤ p.fl ∧ p.fl ≤ 44
  funs : ∀ f, f ∈ p.fs → FunOk cancels p.fs.length p.fu f
theorem io_cancel {a funcs futs n : Int} (h : 0 ≤ a ∧ a < 4) : XOk true ⟨13, a, 0, 0⟩ funcs futs n :=
  ⟨by simp [shape, okOp, kinds, fits, most]; omega, fun _ => rfl, by simp, by simp, by simp, by simp, by simp⟩
theorem io_ret {c : Bool} {a funcs futs n : Int} (h : 0 ≤ a ∧ a < 4) : XOk c ⟨15, a, 0, 0⟩ funcs futs n :=
  ⟨by simp [shape, okOp, kinds, fits, most]; omega, by simp, by simp, by simp, by simp, by simp, by simp⟩
theorem info33 : (Try.prog.info? 33).map (·.size) = some 4 := by kernel_rfl
theorem snoc_all {α : Type} {p : α → Prop} {xs : List α} {x : α} (h : ∀ y, y ∈ xs → p y) (hx : p x) : ∀ y, y ∈ xs ++ [x] → p y := by
  intro y hy
  rcases List.mem_append.mp hy with h1 | h1
  · exact h y h1
  · rw [List.mem_singleton.mp h1]; exact hx
def RF (w : World) (base : Nat) (ok : Nat → Prop) (v : Value) (f : List S26) : Prop := k26.R 26 w base ok v f
def RP (w : World) (base : Nat) (ok : Nat → Prop) (v : Value) (fs : List (List S26)) : Prop := (Kd.slice 26 k26).R 38 w base ok v fs
/-- While a program is being made: the numbers in b, the answer's place g4, the program in g7, its functions so far, the one that is being made. -/
structure PS (w0 : World) (b g4 g7 : Nat) (fu de fl : Int) (w : World) (U v : Value) (fs : List (List S26)) (f : List S26) : Prop where
  at_ : LAt w0 w b
  below : Below w0.heap.size w0 w
  res : w.heap[g4]? = some (.cells #[.slice none 0 0, .int .i64 0, .int .i64 0, .int .i64 0] 33 (0, 0))
  prog : w.heap[g7]? = some (.cells #[U, .int .i64 fu, .int .i64 de, .int .i64 fl] 33 (0, 0))
  funs : RP w w0.heap.size (fun k => (k ≠ b ∧ k ≠ g4 ∧ k ≠ g7) ∧ some k ≠ v.ownBlock) U fs
  fun_ : RF w w0.heap.size (fun k => k ≠ b ∧ k ≠ g4 ∧ k ≠ g7) v f
namespace PS
variable {w0 w w1 : World} {b g4 g7 : Nat} {fu de fl : Int} {U v v1 : Value} {fs : List (List S26)} {f f1 : List S26}
theorem only (h : PS w0 b g4 g7 fu de fl w U v fs f) (hn : b ≠ g4 ∧ b ≠ g7) (hb : w0.heap.size ≤ b) (hL : LAt w0 w1 b) (hO : Only b w w1) : PS w0 b g4 g7 fu de fl w1 U v fs f :=
  ⟨hL, h.below.trans (hO.below hb h.below.size), (hO.keep g4 (blk_lt h.res) (Ne.symm hn.1)).trans h.res, (hO.keep g7 (blk_lt h.prog) (Ne.symm hn.2)).trans h.prog,
    Kd.R_step h.funs (fun k hk hlt => hO.keep k hlt hk.1.1), Kd.R_step h.fun_ (fun k hk hlt => hO.keep k hlt hk.1)⟩
theorem new (h : PS w0 b g4 g7 fu de fl w U v fs f) (hn : b ≠ g4 ∧ b ≠ g7) (hb : w0.heap.size ≤ b) (o : Obj) : PS w0 b g4 g7 fu de fl (w.alloc o) U v fs f :=
  h.only hn hb (h.at_.below (below_alloc (Below.refl _ _) o)) (Only.of (below_alloc (Below.refl _ _) o))
theorem nil (h : PS w0 b g4 g7 fu de fl w U v fs f) : PS w0 b g4 g7 fu de fl w U (.slice none 0 0) fs [] :=
  ⟨h.at_, h.below, h.res, h.prog, Kd.R_mono h.funs (fun k hk => ⟨hk.1, by simp [Value.ownBlock]⟩), Kd.R_nil _ _ _ _ _⟩
/-- Behind an append to the function that is being made. -/
theorem app (h : PS w0 b g4 g7 fu de fl w U v fs f) (hg : w.grownBy w1 v.ownBlock) (hat : v1.ownBlock = v.ownBlock ∨ ∃ b, v1.ownBlock = some b ∧ w.heap.size ≤ b) (hB : Below w0.heap.size w0 w1)
    (hR : RF w1 w0.heap.size (fun k => k ≠ b ∧ k ≠ g4 ∧ k ≠ g7) v1 f1) : PS w0 b g4 g7 fu de fl w1 U v1 fs f1 := by
  have hne : ∀ k, v.ownBlock = some k → k ≠ b ∧ k ≠ g4 ∧ k ≠ g7 := h.fun_.1
  have hb := h.at_.lt
  obtain ⟨A, c, xs, h1, h2, h3⟩ := h.at_
  refine ⟨⟨A, c, xs, (hg.block b hb (fun he => (hne b he.symm).1 rfl)).trans h1, h2, h3⟩, hB, (hg.block g4 (blk_lt h.res) (fun he => (hne g4 he.symm).2.1 rfl)).trans h.res, (hg.block g7 (blk_lt h.prog) (fun he => (hne g7 he.symm).2.2 rfl)).trans h.prog, Kd.R_after h.funs hg hat, hR⟩
theorem next {U1 : Value} {fs1 : List (List S26)} (h : PS w0 b g4 g7 fu de fl w U v fs f) (hg : w.grownBy w1 U.ownBlock) (hB : Below w0.heap.size w0 w1) (hn : b ≠ g7 ∧ g4 ≠ g7 ∧ w0.heap.size ≤ g7)
    (hR : RP w1 w0.heap.size (fun k => k ≠ b ∧ k ≠ g4 ∧ k ≠ g7) U1 fs1) : PS w0 b g4 g7 fu de fl (w1.setCell ⟨g7, 0, none⟩ U1) U1 (.slice none 0 0) fs1 [] := by
  have hne : ∀ k, U.ownBlock = some k → (k ≠ b ∧ k ≠ g4 ∧ k ≠ g7) := fun k hk => (h.funs.1 k hk).1
  have hb := h.at_.lt
  obtain ⟨A, c, xs, h1, h2, h3⟩ := h.at_
  refine ⟨LAt.far ⟨A, c, xs, (hg.block b hb (fun he => (hne b he.symm).1 rfl)).trans h1, h2, h3⟩ hn.1 U1, hB.setCell hn.2.2 U1,
    (Below.heap_setCell w1 ⟨g7, 0, none⟩ U1 g4 hn.2.1).trans ((hg.block g4 (blk_lt h.res) (fun he => (hne g4 he.symm).2.1 rfl)).trans h.res),
    blk_put ((hg.block g7 (blk_lt h.prog) (fun he => (hne g7 he.symm).2.2 rfl)).trans h.prog) 0 U1 rfl,
    Kd.R_mono (Kd.R_far hR (fun k hk => hk.2.2) U1) (fun k hk => ⟨hk, by simp [Value.ownBlock]⟩), Kd.R_nil _ _ _ _ _⟩
theorem fresh (h : PS w0 b g4 g7 fu de fl w U v fs f) : ∀ k, w.heap.size ≤ k → k ≠ b ∧ k ≠ g4 ∧ k ≠ g7 := by
  intro k hk
  have h1 := h.at_.lt
  have h2 := blk_lt h.res
  have h3 := blk_lt h.prog
  omega
end PS
theorem info26z : (Try.prog.info? 26).map (fun i => (i.zero, i.size, i.bytes)) = some (some (.agg #[.int .i64 0, .int .i64 0, .int .i64 0, .int .i64 0]), k26.sz, 32) := by kernel_rfl
theorem info38z : (Try.prog.info? 38).map (fun i => (i.zero, i.size, i.bytes)) = some (some (.slice none 0 0), (Kd.slice 26 k26).sz, 24) := by kernel_rfl
theorem ps_reads {w : World} {b : Nat} {U : Value} {fu de fl : Int} (h : w.heap[b]? = some (.cells #[U, .int .i64 fu, .int .i64 de, .int .i64 fl] 33 (0, 0))) :
    w.cell? ⟨b, 0, none⟩ = some U ∧ w.cell? ⟨b, 1, none⟩ = some (.int .i64 fu) ∧ w.cell? ⟨b, 2, none⟩ = some (.int .i64 de) ∧ w.cell? ⟨b, 3, none⟩ = some (.int .i64 fl) :=
  ⟨cell_of_row w b 0 _ 33 (0, 0) h, cell_of_row w b 1 _ 33 (0, 0) h, cell_of_row w b 2 _ 33 (0, 0) h, cell_of_row w b 3 _ 33 (0, 0) h⟩

set_option maxHeartbeats 1000000 in
theorem Prog_calls (n : List Int) (A : Option Addr) (c : Nat) (cancels : Bool) (w : World) (hC : (Kd.int .i64).C w A n.length n) (hc : n.length ≤ c) :
    Calls Try.prog 14 #[.slice A n.length c, .bool cancels] w fun e w' => ∃ p U, e = .returned (.agg #[U, .int .i64 p.fu, .int .i64 p.de, .int .i64 p.fl]) ∧ ProgOk cancels p ∧ RP w' w.heap.size (fun _ => True) U p.fs ∧ Below w.heap.size w w' := by
  have S4 := Aside0.mk (blk_alloc (heap_alloc_new w (.cells #[.slice none 0 0, .int .i64 0, .int .i64 0, .int .i64 0] 33)) (.cells #[.slice A n.length c] 63))
  have Sb := Aside0.mk (heap_alloc_new (w.alloc (.cells #[.slice none 0 0, .int .i64 0, .int .i64 0, .int .i64 0] 33)) (.cells #[.slice A n.length c] 63))
  have HB := Aside0.mk (below_two (Below.refl w.heap.size w) (Nat.le_refl _) (.cells #[.slice none 0 0, .int .i64 0, .int .i64 0, .int .i64 0] 33) (.cells #[.slice A n.length c] 63))
  have HC0 := Aside0.mk hC
  clear hC
  have hsz2 : ((w.alloc (.cells #[.slice none 0 0, .int .i64 0, .int .i64 0, .int .i64 0] 33)).alloc (.cells #[.slice A n.length c] 63)).heap.size = w.heap.size + 2 := by rw [World.size_alloc, World.size_alloc]
  rw [World.size_alloc] at Sb
  go_enter Try.func14, Try.ntmps14
  go_wp2_with (fail)
  revert S4 Sb HB hsz2
  generalize (w.alloc (.cells #[.slice none 0 0, .int .i64 0, .int .i64 0, .int .i64 0] 33)).alloc (.cells #[.slice A n.length c] 63) = w1
  intro S4 Sb HB hsz2
  obtain ⟨b, hb⟩ : ∃ b, w.heap.size + 1 = b := ⟨_, rfl⟩
  rw [hb] at Sb
  rw [hb]
  refine (Next_calls w w1 b 1048576 (by omega) (by omega) ⟨A, c, n, Sb.out, hc, HC0.out⟩ HB.out (by omega)).mono ?_
  rintro e w2 ⟨v, rfl, v0, v1, hL2, hO2⟩
  clear Sb HC0
  have S4' := Aside0.mk ((hO2.keep w.heap.size (by omega) (by omega)).trans S4.out)
  have HB2 := Aside0.mk (HB.out.trans (hO2.below (by omega) (by omega)))
  have hs2 := hO2.size
  have HL2 := Aside0.mk hL2
  clear S4 HB hL2 hO2
  go_wp2_with (fail)
  have hN : 1 ≤ 1 + v / 640 % 4 ∧ 1 + v / 640 % 4 ≤ 4 := by omega
  have hfu : 0 ≤ v % 4 ∧ v % 4 ≤ 3 := by omega
  have hde : 0 ≤ v / 4 % 4 ∧ v / 4 % 4 ≤ 3 := by omega
  have hfl : 5 ≤ 5 + v / 16 % 40 ∧ 5 + v / 16 % 40 ≤ 44 := by omega
  obtain ⟨N, hNe⟩ : ∃ N : Nat, 1 + v / 640 % 4 = (N : Int) := ⟨(1 + v / 640 % 4).toNat, by omega⟩
  rw [hNe]
  rw [hNe] at hN
  have P0 : PS w b w.heap.size w2.heap.size (v % 4) (v / 4 % 4) (5 + v / 16 % 40) (w2.alloc (.cells #[.slice none 0 0, .int .i64 (v % 4), .int .i64 (v / 4 % 4), .int .i64 (5 + v / 16 % 40)] 33)) (.slice none 0 0) (.slice none 0 0) [] [] :=
    ⟨HL2.out.below (below_alloc (Below.refl _ _) _), HB2.out.alloc HB2.out.size _, blk_alloc S4'.out _, heap_alloc_new _ _, Kd.R_nil _ _ _ _ _, Kd.R_nil _ _ _ _ _⟩
  replace P0 := Aside0.mk P0
  revert P0
  generalize w2.alloc (.cells #[.slice none 0 0, .int .i64 (v % 4), .int .i64 (v / 4 % 4), .int .i64 (5 + v / 16 % 40)] 33) = w3
  have hgb : b ≠ w.heap.size ∧ b ≠ w2.heap.size := by omega
  have hg7 : w.heap.size < w2.heap.size := by omega
  have hbw : w.heap.size ≤ b := by omega
  clear hs2 hsz2 hb HL2 HB2 S4' hc
  revert hgb hfu hde hfl hg7
  generalize w2.heap.size = g7
  generalize v % 4 = fu
  generalize v / 4 % 4 = de
  generalize 5 + v / 16 % 40 = fl
  intro hfu hde hfl hgb hg7 P0
  have HG7 := Aside0.mk hg7
  have HFU := Aside0.mk hfu
  have HDE := Aside0.mk hde
  have HFL := Aside0.mk hfl
  have HNN := Aside0.mk hN
  have HGB := Aside0.mk hgb
  have HBW := Aside0.mk hbw
  clear hNe hfu hde hfl hN hgb hbw hg7 v0 v1
  go_loopw [9] (fun u9 w' => ∃ (i : Nat) (U : Value) (fs : List (List S26)), u9 = .int .i64 i ∧ fs.length = i ∧ i ≤ N ∧ Aside0 (∀ f, f ∈ fs → FunOk cancels N fu f) ∧ Aside0 (PS w b w.heap.size g7 fu de fl w' U (.slice none 0 0) fs [])) (fun u9 _ => N - (intOf u9).toNat)
  case atStart => exact ⟨0, _, [], rfl, rfl, by omega, ⟨fun _ h => absurd h List.not_mem_nil⟩, P0⟩
  case round =>
    obtain ⟨i, U, fs, rfl, hfs, hiN, HA, HP⟩ := hrel
    by_cases hlt : i < N
    · go_wp2_with (fail)
      refine (Next_calls w _ b 10 (by omega) (by omega) HP.out.at_ HP.out.below HBW.out).mono ?_
      rintro e w4 ⟨k0, rfl, hk0, hk1, hL4, hO4⟩
      replace HP := Aside0.mk (HP.out.only HGB.out HBW.out hL4 hO4)
      clear hL4 hO4
      obtain ⟨K, hK⟩ : ∃ K : Nat, 2 + k0 = (K : Int) := ⟨(2 + k0).toNat, by omega⟩
      have hK2 : 2 ≤ K ∧ K ≤ 11 := by omega
      go_wp2_with (fail)
      go_loopw [11, 12] (fun u11 u12 w' => ∃ (j : Nat) (f : List S26), u12 = .int .i64 j ∧ f.length = j ∧ j + 1 ≤ K ∧ Aside0 (∀ x, x ∈ f → XOk cancels x N fu K) ∧ Aside0 (PS w b w.heap.size g7 fu de fl w' U u11 fs f)) (fun _ u12 _ => K - (intOf u12).toNat)
      case atStart => exact ⟨0, [], rfl, rfl, by omega, ⟨fun _ h => absurd h List.not_mem_nil⟩, HP⟩
      case round =>
        obtain ⟨j, f, rfl, hfj, hjK, HX, HF⟩ := hrel
        by_cases hjl : j + 1 < K
        · have hjl' : (j : Int) + 1 < (K : Int) := by omega
          obtain ⟨g0, g1, g2, g3⟩ := ps_reads HF.out.prog
          go_wp2_with (fail)
          refine (Ins_calls w _ b N fu j K HNN.out HFU.out (by omega) (by omega) HF.out.at_ HF.out.below HBW.out).mono ?_
          rintro e w5 ⟨x, rfl, hx, hL5, hO5⟩
          replace HF := Aside0.mk (HF.out.only HGB.out HBW.out hL5 hO5)
          have HXX := Aside0.mk (hx.x cancels)
          clear hL5 hO5 g0 g1 g2 g3 hx
          have HF1 := Aside0.mk (HF.out.new HGB.out HBW.out (.cells #[.int .i64 x.f0, .int .i64 x.f1, .int .i64 x.f2, .int .i64 x.f3] 26))
          have Sx := Aside0.mk (heap_alloc_new w5 (.cells #[.int .i64 x.f0, .int .i64 x.f1, .int .i64 x.f2, .int .i64 x.f3] 26))
          obtain ⟨⟨p0, p1, p2, p3⟩, ⟨q0, q1, q2, q3⟩⟩ := row4' Sx.out
          cases cancels with
          | false =>
            go_wp2_with (at_builtin; go_loud (refine Kd.R_append k26 (w0 := w) w.heap.size rfl (.tmp 63) (.tmp 65) 38 26 (.agg #[.int .i64 0, .int .i64 0, .int .i64 0, .int .i64 0]) 32 rfl Try.underlying38 info26z rfl (by decide) (by decide) u11 f (x) _ (fun k => k ≠ b ∧ k ≠ w.heap.size ∧ k ≠ g7) (fun _ => False) rfl (by rw [World.size_alloc]; rfl) (k26_mkM _ _ _ (x)) (fun _ hk => hk.elim) (HF1.out.fresh) HF1.out.fun_ HF1.out.below HF1.out.below.size (by omega) ?_; intro v9 w9 ho9 hb9 hg9 ha9; have HF9 := Aside0.mk (HF1.out.app hg9 ha9 hb9 ho9); clear ho9 hb9 hg9 ha9))
            exact ⟨⟨j + 1, f ++ [x], rfl, by rw [List.length_append, hfj]; rfl, by omega, ⟨snoc_all HX.out HXX.out⟩, HF9⟩, by simp only [intOf]; omega⟩
          | true =>
            by_cases h14 : x.f0 = 14
            · have t14 : (x.f0 == 14) = true := beq_iff_eq.mpr h14
              have hgx : w5.heap.size < (w5.alloc (.cells #[.int .i64 x.f0, .int .i64 x.f1, .int .i64 x.f2, .int .i64 x.f3] 26)).heap.size := by rw [World.size_alloc]; omega
              have hbx : w5.heap.size ≠ b := by have := HF.out.at_.lt; omega
              clear h14
              go_wp2_with (fail)
              refine (Next_calls w _ b 4 (by omega) (by omega) HF1.out.at_ HF1.out.below HBW.out).mono ?_
              rintro e w6 ⟨k1, rfl, hk10, hk11, hL6, hO6⟩
              clear p0 p1 p2 p3 q0 q1 q2 q3
              have Sx6 := Aside0.mk ((hO6.keep w5.heap.size hgx hbx).trans Sx.out)
              obtain ⟨⟨p0, p1, p2, p3⟩, ⟨q0, q1, q2, q3⟩⟩ := row4' Sx6.out
              obtain ⟨gx, hgx2⟩ : ∃ gx, w5.heap.size = gx := ⟨_, rfl⟩
              have HL6 := Aside0.mk hL6
              have HO6 := Aside0.mk ((Only.of (b := b) (below_alloc (Below.refl w5.heap.size w5) (.cells #[.int .i64 x.f0, .int .i64 x.f1, .int .i64 x.f2, .int .i64 x.f3] 26))).trans hO6)
              rw [hgx2] at p0 p1 p2 p3 q0 q1 q2 q3 hbx
              clear hL6 hO6
              have HF6 := Aside0.mk (HF.out.only HGB.out HBW.out ((((HL6.out.far (Ne.symm hbx) (.int .i64 13)).far (j := 1) (Ne.symm hbx) (.int .i64 k1)).far (j := 2) (Ne.symm hbx) (.int .i64 0)).far (j := 3) (Ne.symm hbx) (.int .i64 0)) ((((HO6.out.far (j := 0) (Nat.le_of_eq hgx2) (.int .i64 13)).far (j := 1) (Nat.le_of_eq hgx2) (.int .i64 k1)).far (j := 2) (Nat.le_of_eq hgx2) (.int .i64 0)).far (j := 3) (Nat.le_of_eq hgx2) (.int .i64 0)))
              rw [hgx2]
              clear hgx2 hgx HF1 HF Sx
              go_wp2_with (at_builtin; go_loud (refine Kd.R_append k26 (w0 := w) w.heap.size rfl (.tmp 63) (.tmp 65) 38 26 (.agg #[.int .i64 0, .int .i64 0, .int .i64 0, .int .i64 0]) 32 rfl Try.underlying38 info26z rfl (by decide) (by decide) u11 f (⟨13, k1, 0, 0⟩) _ (fun k => k ≠ b ∧ k ≠ w.heap.size ∧ k ≠ g7) (fun _ => False) rfl (by simp only [World.size_setCell]; rfl) (k26_mkM _ _ _ (⟨13, k1, 0, 0⟩)) (fun _ hk => hk.elim) (HF6.out.fresh) HF6.out.fun_ HF6.out.below HF6.out.below.size (by omega) ?_; intro v9 w9 ho9 hb9 hg9 ha9; have HF9 := Aside0.mk (HF6.out.app hg9 ha9 hb9 ho9); clear ho9 hb9 hg9 ha9))
              exact ⟨⟨j + 1, f ++ [⟨13, k1, 0, 0⟩], rfl, by rw [List.length_append, hfj]; rfl, by omega, ⟨snoc_all HX.out (io_cancel ⟨hk10, hk11⟩)⟩, HF9⟩, by simp only [intOf]; omega⟩
            · have t14 : (x.f0 == 14) = false := beq_eq_false_iff_ne.mpr h14
              clear h14
              go_wp2_with (at_builtin; go_loud (refine Kd.R_append k26 (w0 := w) w.heap.size rfl (.tmp 63) (.tmp 65) 38 26 (.agg #[.int .i64 0, .int .i64 0, .int .i64 0, .int .i64 0]) 32 rfl Try.underlying38 info26z rfl (by decide) (by decide) u11 f (x) _ (fun k => k ≠ b ∧ k ≠ w.heap.size ∧ k ≠ g7) (fun _ => False) rfl (by rw [World.size_alloc]; rfl) (k26_mkM _ _ _ (x)) (fun _ hk => hk.elim) (HF1.out.fresh) HF1.out.fun_ HF1.out.below HF1.out.below.size (by omega) ?_; intro v9 w9 ho9 hb9 hg9 ha9; have HF9 := Aside0.mk (HF1.out.app hg9 ha9 hb9 ho9); clear ho9 hb9 hg9 ha9))
              exact ⟨⟨j + 1, f ++ [x], rfl, by rw [List.length_append, hfj]; rfl, by omega, ⟨snoc_all HX.out HXX.out⟩, HF9⟩, by simp only [intOf]; omega⟩
        · have hjl' : (K : Int) ≤ (j : Int) + 1 := by omega
          go_wp2_with (fail)
          refine canon [.pure 0, .pure 2, .pure 3, .held 1, .eff 4, .pure 5, .eff 6, .eff 7, .eff 8, .eff 9, .pure 10, .last 11] [11] (fun W => W.heap[g7]? = some (.cells #[U, .int .i64 fu, .int .i64 de, .int .i64 fl] 33 (0, 0))) (by kernel_rfl) rfl rfl (by kernel_rfl) (by intro c d v a w h; cases d <;> exact h) ?_
          intro w6 hb6 _
          replace HF := Aside0.mk (HF.out.only HGB.out HBW.out (HF.out.at_.below hb6) (Only.of hb6))
          clear hb6
          have S6 := Aside0.mk HF.out.prog
          repeat (first | (refine c_pure rfl rfl (by rfl) (v := ?_) ?_ (a' := ?_) ?_ ?_; rotate_left; (focus (intro w'; go_simp; with_reducible rfl)); rotate_left; (focus ((try simp only [Act.put, List.setIfInBounds_toArray, List.set_cons_zero, List.set_cons_succ, i64_w, i32_w]); rfl))) | (refine c_off rfl rfl (by rfl) (a' := ?_) ?_ ?_; rotate_left; (focus ((try simp only [Act.put, List.setIfInBounds_toArray, List.set_cons_zero, List.set_cons_succ, i64_w, i32_w]); rfl))))
          (refine c_cell rfl rfl (by rfl) (S6.out) 31 (.tmp 67) rfl (⟨g7, 0, none⟩) rfl (U) (fun w' hS' => (ps_reads hS').1) Try.underlying31 rfl (a' := ?_) ?_ ?_; rotate_left; (focus ((try simp only [Act.put, List.setIfInBounds_toArray, List.set_cons_zero, List.set_cons_succ, i64_w, i32_w]); rfl)))
          repeat (first | (refine c_pure rfl rfl (by rfl) (v := ?_) ?_ (a' := ?_) ?_ ?_; rotate_left; (focus (intro w'; go_simp; with_reducible rfl)); rotate_left; (focus ((try simp only [Act.put, List.setIfInBounds_toArray, List.set_cons_zero, List.set_cons_succ, i64_w, i32_w]); rfl))) | (refine c_off rfl rfl (by rfl) (a' := ?_) ?_ ?_; rotate_left; (focus ((try simp only [Act.put, List.setIfInBounds_toArray, List.set_cons_zero, List.set_cons_succ, i64_w, i32_w]); rfl))))
          refine c_eff rfl (fun K1 hK1 => ?_)
          go_simp
          refine (Next_calls w _ b 4 (by omega) (by omega) HF.out.at_ HF.out.below HBW.out).mono ?_
          rintro e w7 ⟨k1, rfl, hk10, hk11, hL7, hO7⟩
          have HF7 := Aside0.mk (HF.out.only HGB.out HBW.out hL7 hO7)
          refine hK1 _ _ (fun _ => HF7.out.prog) ?_
          clear hK1 K1 HF S6 hL7 hO7
          repeat (first | (refine c_pure rfl rfl (by rfl) (v := ?_) ?_ (a' := ?_) ?_ ?_; rotate_left; (focus (intro w'; go_simp; with_reducible rfl)); rotate_left; (focus ((try simp only [Act.put, List.setIfInBounds_toArray, List.set_cons_zero, List.set_cons_succ, i64_w, i32_w]); rfl))) | (refine c_off rfl rfl (by rfl) (a' := ?_) ?_ ?_; rotate_left; (focus ((try simp only [Act.put, List.setIfInBounds_toArray, List.set_cons_zero, List.set_cons_succ, i64_w, i32_w]); rfl))))
          refine c_eff rfl (fun K1 hK1 => ?_)
          go_simp
          refine hK1 _ _ (fun h => blk_alloc h _) ?_
          clear hK1 K1
          (refine c_norm (a' := ?_) ?_ ?_; rotate_left; (focus ((try simp only [Act.put, List.setIfInBounds_toArray, List.set_cons_zero, List.set_cons_succ, i64_w, i32_w]); rfl)))
          refine c_eff rfl (fun K1 hK1 => ?_)
          refine Kd.R_append_step k26 (w0 := w) w.heap.size (by rfl) (.tmp 69) (.tmp 73) 38 26 (.agg #[.int .i64 0, .int .i64 0, .int .i64 0, .int .i64 0]) 32 rfl Try.underlying38 info26z rfl (by decide) (by decide) u11 f ⟨15, k1, 0, 0⟩ _ (fun k => k ≠ b ∧ k ≠ w.heap.size ∧ k ≠ g7) (fun _ => False) rfl rfl (k26_mkM _ _ _ ⟨15, k1, 0, 0⟩) (fun _ hk => hk.elim) (HF7.out.fresh) HF7.out.fun_ HF7.out.below HF7.out.below.size (by omega) ?_
          intro v9 w9 ho9 hb9 hg9 ha9
          obtain ⟨A9, c9, h9⟩ := Kd.R_slice ho9
          obtain ⟨n9, hn9⟩ : ∃ n9, (f ++ [(⟨15, k1, 0, 0⟩ : S26)]).length = n9 := ⟨_, rfl⟩
          rw [hn9] at h9
          rw [h9] at ho9 ha9
          clear hn9
          rw [h9]
          clear h9
          have HF9 := Aside0.mk (HF7.out.app hg9 ha9 hb9 ho9)
          refine hK1 _ _ (fun _ => HF9.out.prog) ?_
          clear ho9 hb9 hg9 ha9 hK1 K1 HF7
          (refine c_norm (a' := ?_) ?_ ?_; rotate_left; (focus ((try simp only [Act.put, List.setIfInBounds_toArray, List.set_cons_zero, List.set_cons_succ, i64_w, i32_w]); rfl)))
          refine c_eff rfl (fun K1 hK1 => ?_)
          go_simp
          refine hK1 _ _ (fun h => blk_alloc h _) ?_
          clear hK1 K1
          (refine c_norm (a' := ?_) ?_ ?_; rotate_left; (focus ((try simp only [Act.put, List.setIfInBounds_toArray, List.set_cons_zero, List.set_cons_succ, i64_w, i32_w]); rfl)))
          refine c_eff rfl (fun K1 hK1 => ?_)
          refine Kd.R_append_step (Kd.slice 26 k26) (w0 := w) w.heap.size (by rfl) (.tmp 68) (.tmp 75) 31 38 (.slice none 0 0) 24 rfl Try.underlying31 info38z rfl (by decide) (by decide) U fs (f ++ [(⟨15, k1, 0, 0⟩ : S26)]) _ (fun k => k ≠ b ∧ k ≠ w.heap.size ∧ k ≠ g7) (fun k => (k ≠ b ∧ k ≠ w.heap.size ∧ k ≠ g7) ∧ some k ≠ U.ownBlock) rfl rfl ⟨_, rfl, Kd.R_apartR HF9.out.fun_ HF9.out.funs (by decide)⟩ (fun _ hk => hk) (HF9.out.fresh) (Kd.R_drop HF9.out.funs) HF9.out.below HF9.out.below.size (by have := HNN.out; omega) ?_
          intro U2 w10 ho10 hb10 hg10 _
          obtain ⟨A10, c10, h10⟩ := Kd.R_slice ho10
          obtain ⟨n10, hn10⟩ : ∃ n10, (fs ++ [f ++ [(⟨15, k1, 0, 0⟩ : S26)]]).length = n10 := ⟨_, rfl⟩
          rw [hn10] at h10
          rw [h10] at ho10
          rw [h10]
          clear h10 hn10
          have HF10 := Aside0.mk (HF9.out.next hg10 hb10 ⟨HGB.out.2, Nat.ne_of_lt HG7.out, Nat.le_of_lt HG7.out⟩ ho10)
          refine hK1 _ _ (fun _ => (hg10.block g7 (blk_lt HF9.out.prog) (fun he => (HF9.out.funs.1 g7 he.symm).1.2.2 rfl)).trans HF9.out.prog) ?_
          clear ho10 hb10 hK1 K1
          (refine c_norm (a' := ?_) ?_ ?_; rotate_left; (focus ((try simp only [Act.put, List.setIfInBounds_toArray, List.set_cons_zero, List.set_cons_succ, i64_w, i32_w]); rfl)))
          repeat (first | (refine c_pure rfl rfl (by rfl) (v := ?_) ?_ (a' := ?_) ?_ ?_; rotate_left; (focus (intro w'; go_simp; with_reducible rfl)); rotate_left; (focus ((try simp only [Act.put, List.setIfInBounds_toArray, List.set_cons_zero, List.set_cons_succ, i64_w, i32_w]); rfl))) | (refine c_off rfl rfl (by rfl) (a' := ?_) ?_ ?_; rotate_left; (focus ((try simp only [Act.put, List.setIfInBounds_toArray, List.set_cons_zero, List.set_cons_succ, i64_w, i32_w]); rfl))))
          obtain ⟨p0, p1, p2, p3⟩ := ps_reads ((hg10.block g7 (blk_lt HF9.out.prog) (fun he => (HF9.out.funs.1 g7 he.symm).1.2.2 rfl)).trans HF9.out.prog)
          have q0 : w10.frozen? ⟨g7, 0, none⟩ = false := blk_frozen ((hg10.block g7 (blk_lt HF9.out.prog) (fun he => (HF9.out.funs.1 g7 he.symm).1.2.2 rfl)).trans HF9.out.prog) 0
          clear hg10 HF9
          refine c_last rfl (fun K1 hK1 => ?_)
          go_simp
          refine hK1 _ _ ?_
          clear hK1 K1
          (refine c_norm (a' := ?_) ?_ ?_; rotate_left; (focus ((try simp only [Act.put, List.setIfInBounds_toArray, List.set_cons_zero, List.set_cons_succ, i64_w, i32_w]); rfl)))
          refine c_done ?_
          have HFO : FunOk cancels N fu (f ++ [(⟨15, k1, 0, 0⟩ : S26)]) := by
            have hl : (f ++ [(⟨15, k1, 0, 0⟩ : S26)]).length = K := by rw [List.length_append, hfj]; simp; omega
            exact ⟨by omega, by rw [hl]; exact snoc_all HX.out (io_ret ⟨hk10, hk11⟩), f, k1, rfl⟩
          replace HFO := Aside0.mk HFO
          go_wp2_with (fail)
          have hwr : wrap64 ((i : Int) + 1) = (i : Int) + 1 := wrap64_id _ (by have := HNN.out; omega)
          rw [hwr]
          exact ⟨⟨i + 1, _, fs ++ [f ++ [(⟨15, k1, 0, 0⟩ : S26)]], rfl, by rw [List.length_append, hfs]; rfl, by omega, ⟨snoc_all HA.out HFO.out⟩, HF10⟩, by simp only [intOf]; omega⟩
    · have hge : (N : Int) ≤ (i : Int) := by omega
      have hiN' : fs.length = N := by omega
      have hN4 := HNN.out
      clear HNN P0
      subst hfs
      subst hiN'
      clear hiN hlt
      obtain ⟨A9, c9, rfl⟩ := Kd.R_slice HP.out.funs
      obtain ⟨p0, p1, p2, p3⟩ := ps_reads HP.out.prog
      obtain ⟨r0, r1, r2, r3⟩ := ps_reads HP.out.res
      have q0 := blk_frozen HP.out.res 0
      have q1 := blk_frozen HP.out.res 1
      have q2 := blk_frozen HP.out.res 2
      have q3 := blk_frozen HP.out.res 3
      have SX := Aside0.mk (blk_put (blk_put (blk_put (blk_put HP.out.res 0 (.slice A9 fs.length c9) rfl) 1 (.int .i64 fu) rfl) 2 (.int .i64 de) rfl) 3 (.int .i64 fl) (cs' := #[.slice A9 fs.length c9, .int .i64 fu, .int .i64 de, .int .i64 fl]) rfl)
      have HR := Aside0.mk (HP.out.funs)
      have HBB := Aside0.mk (HP.out.below)
      go_wp2_with (fail)
      refine bodyPost_ret (results_single rfl (.cell w.heap.size 33 #[.slice A9 fs.length c9, .int .i64 fu, .int .i64 de, .int .i64 fl] (0, 0) _ rfl SX.out Try.underlying33 rfl info33 .nil)) rfl ?_
      refine ⟨⟨fs, fu, de, fl⟩, _, rfl, ⟨?_, HFU.out, HDE.out, HFL.out, HA.out⟩, ?_, ?_⟩
      · show 1 ≤ fs.length ∧ fs.length ≤ 4
        omega
      · exact Kd.R_mono (Kd.R_far (Kd.R_far (Kd.R_far (Kd.R_far HR.out (fun k hk => hk.1.2.1) _) (fun k hk => hk.1.2.1) _) (fun k hk => hk.1.2.1) _) (fun k hk => hk.1.2.1) _) (fun _ _ => trivial)
      · exact (((HBB.out.setCell (Nat.le_refl _) _).setCell (Nat.le_refl _) _).setCell (Nat.le_refl _) _).setCell (Nat.le_refl _) _
end Go.Proofs.Ytmofaahhnokohaa.Code
