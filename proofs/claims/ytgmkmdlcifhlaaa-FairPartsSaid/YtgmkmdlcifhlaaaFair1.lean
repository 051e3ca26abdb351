/- Walks: cut, Lean, Round, Place, the i-th draw of package fair and its reference. -/
import Derived.Test.YtgmkmdlcifhlaaaPFairAllx1
namespace Go.Proofs.Ytgmkmdlcifhlaaa.Fair
open Go.RowKit Go.Proofs.YtgmkmdlcifhlaaaW.PrintWords Go.Proofs.YtgmkmdlcifhlaaaW.PrintLast Go.Proofs.YtgmkmdlcifhlaaaW.PrintMore PFairAll
theorem max2_mx (k k' : IntKind) (x y : Int) : Builtin.max2 (.int k x) (.int k' y) = pure (.int k (mx x y)) := by simp only [Builtin.max2, gt_iff_lt, mx]
theorem min2_mn (k k' : IntKind) (x y : Int) : Builtin.min2 (.int k x) (.int k' y) = pure (.int k (mn x y)) := by simp only [Builtin.min2, mn]
attribute [local go_sem] max2_mx min2_mn max_two min_two max_three min_three max_four min_four

theorem ret_int {k : IntKind} {a b : Int} (h : a = b) : Ending.returned (.int k a) = Ending.returned (.int k b) := by rw [h]
theorem ret_bool {a b : Bool} (h : a = b) : Ending.returned (.bool a) = Ending.returned (.bool b) := by rw [h]
theorem mn_mx (x a b : Int) (h : a ≤ b) : mn (mx x a) b = mx a (mn x b) := by unfold mn mx; split <;> split <;> (try split) <;> omega
theorem cut_calls (a b c r : Int) (w : World) (h : Aside0 (mx b (mn a c) = r)) :
    Calls Try.prog 19 #[.int .i64 a, .int .i64 b, .int .i64 c] w fun e w' => e = .returned (.int .i64 r) ∧ w = w' := by
  go_enter Try.func19, Try.ntmps19
  go_wp2
  go_ret
  exact ⟨by rw [← h.out]; rfl, rfl⟩

def drawAt (ds : List Int) (i : Nat) : Int := if ds.length = 0 then 0 else mx 0 (mn (rd ds (Int.tmod i ds.length)) 1048576)
def pk (work lean : Int) (ds : List Int) (i : Nat) : S34 := ⟨(i : Int) / lean % work, drawAt ds i⟩
def upTo (work lean : Int) (ds : List Int) (n i : Nat) : List S34 := (List.range i).map (pk work lean ds) ++ List.replicate (n - i) z34
def leanL (work steps lean : Int) (ds : List Int) : List S34 := (List.range (mx 0 (mn steps 1048576)).toNat).map (pk (mx 1 (mn work 64)) (mx 1 (mn lean 100)) ds)

theorem upTo_length (W K : Int) (ds : List Int) {n i : Nat} (h : i ≤ n) : (upTo W K ds n i).length = n := by simp [upTo]; omega
theorem upTo_get (W K : Int) (ds : List Int) {n i : Nat} (h : i < n) : (upTo W K ds n i).getD i z34 = z34 := by
  obtain ⟨m, hm⟩ : ∃ m, n - i = m + 1 := ⟨n - i - 1, by omega⟩
  simp [upTo, List.getD_eq_getElem?_getD, List.getElem?_append_right, hm, List.replicate_succ]
theorem upTo_set (W K : Int) (ds : List Int) {n i : Nat} (h : i < n) (x : S34) (hx : x = pk W K ds i) : (upTo W K ds n i).set i x = upTo W K ds n (i + 1) := by
  subst hx
  obtain ⟨m, hm⟩ : ∃ m, n - i = m + 1 := ⟨n - i - 1, by omega⟩
  have h1 : n - (i + 1) = m := by omega
  simp [upTo, hm, h1, List.range_succ, List.set_append, List.replicate_succ]
theorem R_put34 {e base g n cap : Nat} {ok : Nat → Prop} {W : World} {xs : List S34} (h : k34.R e W base ok (.slice (some ⟨g, 0, none⟩) n cap) xs) (i : Nat) (h1 : i < n) (x' : S34) :
    k34.R e (W.setCells g (i * 2) [.int .i64 x'.f0, .int .i64 x'.f1]) base ok (.slice (some ⟨g, 0, none⟩) n cap) (xs.set i x') := by
  obtain ⟨ce, hcl, hM, hcc, hfr⟩ := Kd.R_elem h z34 (i : Int) (by omega) (by omega)
  obtain rfl := k34_openM hM
  exact (Kd.R_seg h (i : Int) (by omega) (by omega) (seg := [.int .i64 x'.f0, .int .i64 x'.f1]) (j := 0) hcl hcc (by show 0 + 2 ≤ 2; omega) (x' := x') (okp := fun _ => False) (k34_mkM _ _ _ x') (fun _ h => h.elim)).1
theorem setCells_two (W : World) (g o : Nat) (u v : Value) : W.setCells g o [u, v] = (W.setCell ⟨g, o, none⟩ u).setCell ⟨g, o + 1, none⟩ v := rfl
theorem R_putA {e base g n cap : Nat} {ok : Nat → Prop} {W : World} {xs : List S34} (h : k34.R e W base ok (.slice (some ⟨g, 0, none⟩) n cap) xs) (i : Nat) (h1 : i < n) (x : Int) :
    k34.R e (W.setCell ⟨g, i * 2, none⟩ (.int .i64 x)) base ok (.slice (some ⟨g, 0, none⟩) n cap) (xs.set i ⟨x, (xs.getD i z34).f1⟩) := by
  obtain ⟨ce, hcl, hM, hcc, hfr⟩ := Kd.R_elem h z34 (i : Int) (by omega) (by omega)
  obtain rfl := k34_openM hM
  exact (Kd.R_seg h (i : Int) (by omega) (by omega) (seg := [.int .i64 x]) (j := 0) hcl hcc (by show 0 + 1 ≤ 2; omega) (x' := ⟨x, (xs.getD i z34).f1⟩) (okp := fun _ => False) (k34_mkM _ _ _ ⟨x, (xs.getD i z34).f1⟩) (fun _ h => h.elim)).1

theorem Lean_calls (work steps lean : Int) (A : Option Addr) (c : Nat) (ds : List Int) (w : World) (hr : Kd.C (Kd.int .i64) w A ds.length ds) (hc : ds.length ≤ c) :
    Calls Try.prog 13 #[.int .i64 work, .int .i64 steps, .int .i64 lean, .slice A ds.length c] w fun e w' => ∃ v, e = .returned v ∧ Kd.R k34 34 w' w.heap.size (fun _ => True) v (leanL work steps lean ds) ∧ Below w.heap.size w w' := by
  obtain ⟨W, hW⟩ : ∃ r, mx 1 (mn work 64) = r := ⟨_, rfl⟩
  obtain ⟨K, hK⟩ : ∃ r, mx 1 (mn lean 100) = r := ⟨_, rfl⟩
  obtain ⟨n', hN⟩ : ∃ r, mx 0 (mn steps 1048576) = r := ⟨_, rfl⟩
  have hW0 : 1 ≤ W := by unfold mx mn at hW; split at hW <;> split at hW <;> omega
  have hK0 : 1 ≤ K := by unfold mx mn at hK; split at hK <;> split at hK <;> omega
  have hN0 : 0 ≤ n' ∧ n' ≤ 1048576 := by unfold mx mn at hN; split at hN <;> split at hN <;> omega
  obtain ⟨n, rfl⟩ := Int.eq_ofNat_of_zero_le hN0.1
  have hL : leanL work steps lean ds = upTo W K ds n n := by simp [leanL, upTo, hW, hK, hN]
  rw [hL]
  clear hL
  have HW := Aside0.mk hW
  have HK := Aside0.mk hK
  have HN := Aside0.mk hN
  clear hW hK hN
  have hn : n ≤ 1048576 := by omega
  have HR := Aside0.mk hr
  clear hN0 hr
  go_enter Try.func13, Try.ntmps13
  go_wp2_with (first | (go_at_call 19; (first | (with_reducible refine (cut_calls _ _ _ _ _ HW).mono ?_) | (with_reducible refine (cut_calls _ _ _ _ _ HK).mono ?_) | (with_reducible refine (cut_calls _ _ _ _ _ HN).mono ?_)); rintro e w' ⟨rfl, rfl⟩) | ((with_reducible refine gate_dst (N := 17) rfl ?_); refine Kd.R_make k34 _ 34 rfl (N := 17) rfl 27 _ _ rfl (n : Int) rfl rfl Try.underlying27 (.agg #[(.int .i64 0), (.int .i64 0)]) 16 info34 rfl (by decide) (by omega) z34 (ok := fun _ => True) (okp := fun _ => True) (k34_mkM _ _ _ z34 ) (fun _ hk => hk) trivial (by omega) (by omega) (Below.refl _ _) (Nat.le_refl _) ?_; intro v w13 ho hb hg_ hnew_; clear hg_ hnew_; have HO := Aside0.mk ho; have HB := Aside0.mk hb; clear hb ho; obtain ⟨Ao, co, eo⟩ := Kd.R_slice HO.out; subst eo))
  have hAo : ∃ g, 0 < n → Ao = some ⟨g, 0, none⟩ ∧ w.heap.size ≤ g := by
    by_cases h0 : 0 < n
    · obtain ⟨g, cap, he, hb, _⟩ := Kd.R_form HO.out (by simpa using h0)
      refine ⟨g, fun _ => ⟨?_, hb⟩⟩
      injection he
    · exact ⟨0, fun h => absurd h h0⟩
  obtain ⟨g, hg0⟩ := hAo
  have hg := Aside0.mk hg0
  clear hg0
  go_loopw [20] (fun v20 w' => ∃ i : Nat, v20 = .int .i64 i ∧ i ≤ n ∧ Aside0 (Kd.R k34 34 w' w.heap.size (fun _ => True) (.slice Ao n co) (upTo W K ds n i)) ∧ Aside0 (Below w.heap.size w w')) (fun i _ => n - (intOf i).toNat)
  case atStart => 
    have := HO.out
    exact ⟨0, rfl, by omega, ⟨by simpa [upTo] using this⟩, ⟨HB.out⟩⟩
  case round =>
    clear HO HB HW HK HN
    obtain ⟨i, rfl, hi, HO, HB⟩ := hrel
    by_cases hlt : i < n
    · obtain ⟨rfl, hgw⟩ := hg.out (by omega)
      obtain ⟨ce, hcl, hM, hcc, hfr⟩ := Kd.R_elem HO.out z34 (i : Int) (by omega) (by omega)
      obtain rfl := k34_openM hM
      have hx0 : wr.cell? ⟨g, i * 2, none⟩ = some _ := hcc 0 _ rfl
      have hx1 : wr.cell? ⟨g, i * 2 + 1, none⟩ = some _ := hcc 1 _ rfl
      have hf0 : wr.frozen? ⟨g, i * 2, none⟩ = false := hfr 0
      have hf1 : wr.frozen? ⟨g, i * 2 + 1, none⟩ = false := hfr 1
      have HCC := Aside0.mk hcc
      clear hcc hfr hM hcl
      have hq0 : 0 ≤ (i : Int) / K := Int.ediv_nonneg (by omega) (by omega)
      have hq1 : (i : Int) / K ≤ 1048576 := Int.le_trans (Int.ediv_le_self _ (by omega)) (by omega)
      have hK1 : (K == 0) = false := beq_eq_false_iff_ne.mpr (by omega)
      have hW1 : (W == 0) = false := beq_eq_false_iff_ne.mpr (by omega)
      by_cases hd : 0 < ds.length
      · have hd1 : decide (0 < ds.length) = true := decide_eq_true hd
        have hr0 : 0 ≤ Int.tmod i ds.length := Int.tmod_nonneg _ (by omega)
        have hr1 : Int.tmod i ds.length < ds.length := Int.tmod_lt_of_pos _ (by omega)
        obtain ⟨r, hr⟩ : ∃ r, Int.tmod i ds.length = r := ⟨_, rfl⟩
        rw [hr] at hr0 hr1
        obtain ⟨ad, rfl, hxd⟩ := Kd.at_int HR.out r hr0 hr1
        have hbd := World.block_lt_of_cell? w _ hxd
        replace hxd := (HB.out.cell (World.block_lt_of_cell? w _ hxd)).trans hxd
        have hxd2 : ∀ u, (wr.setCell ⟨g, i * 2, none⟩ u).cell? (ad.add r.toNat) = some (Value.int IntKind.i64 (rd ds r)) := fun u => (cell_far (by simp only; omega) u).trans hxd
        obtain ⟨dr, hdr0⟩ : ∃ x, mx 0 (mn (rd ds r) 1048576) = x := ⟨_, rfl⟩
        have hdr := Aside0.mk hdr0
        clear hdr0
        go_wp2_with (first | (go_at_call 19; (with_reducible refine (cut_calls _ _ _ _ _ hdr).mono ?_); rintro e w' ⟨rfl, rfl⟩))
        go_roundw
        case rel =>
          have h1 := R_put34 HO.out i hlt (pk W K ds i)
          rw [upTo_set W K ds hlt _ rfl, setCells_two] at h1
          have h2 : (pk W K ds i).f1 = dr := by rw [← hdr.out, ← hr]; show drawAt ds i = _; rw [drawAt, if_neg (by omega)]
          rw [h2] at h1
          exact ⟨i + 1, by go_num, by omega, ⟨h1⟩, ⟨below_set (below_set HB.out hgw) hgw⟩⟩
        case measure => simp [intOf]; omega
      · have hd1 : decide (0 < ds.length) = false := decide_eq_false hd
        go_wp2
        go_roundw
        case rel =>
          have h1 := R_putA HO.out i hlt (pk W K ds i).f0
          rw [upTo_get W K ds hlt, upTo_set W K ds hlt _ (by simp only [pk, drawAt, if_pos (show ds.length = 0 by omega)]; rfl)] at h1
          exact ⟨i + 1, by go_num, by omega, ⟨h1⟩, ⟨below_set HB.out hgw⟩⟩
        case measure => simp [intOf]; omega
    · go_wp2
      go_ret
      have hin : i = n := by omega
      exact ⟨_, rfl, by rw [← hin]; have := HO.out; rw [hin] at this ⊢; exact this, HB.out⟩

theorem Round_calls (work steps : Int) (A : Option Addr) (c : Nat) (ds : List Int) (w : World) (hr : Kd.C (Kd.int .i64) w A ds.length ds) (hc : ds.length ≤ c) :
    Calls Try.prog 15 #[.int .i64 work, .int .i64 steps, .slice A ds.length c] w fun e w' => ∃ v, e = .returned v ∧ Kd.R k34 34 w' w.heap.size (fun _ => True) v (leanL work steps 1 ds) ∧ Below w.heap.size w w' := by
  have HR := Aside0.mk hr
  clear hr
  go_enter Try.func15, Try.ntmps15
  go_wp2_with (go_at_call 13; refine (Lean_calls _ _ _ _ _ _ _ HR.out hc).mono ?_; rintro e w' ⟨v, rfl, ho, hb⟩; have HO := Aside0.mk ho; have HB := Aside0.mk hb; clear ho hb)
  go_ret
  exact ⟨v, rfl, HO.out, HB.out⟩

/-- A number as one from 0 to n - 1. -/
theorem Place_calls (v n : Int) (w : World) (hn : 0 < n) (hn2 : n ≤ 4611686018427387904) :
    Calls Try.prog 9 #[.int .i64 v, .int .i64 n] w fun e w' => e = .returned (.int .i64 (v % n)) ∧ w = w' := by
  have h0 : (n == 0) = false := beq_eq_false_iff_ne.mpr (by omega)
  have e1 : v % n = if Int.tmod v n < 0 then Int.tmod v n + n else Int.tmod v n := by
    have h1 := Int.tmod_lt_of_pos v hn
    have h2 : -n < Int.tmod v n := by have := Int.lt_tmod_of_pos v hn; omega
    have h4 := Int.emod_nonneg v (show n ≠ 0 by omega)
    have h5 := Int.emod_lt_of_pos v hn
    have h3 : Int.tmod v n = v % n ∨ Int.tmod v n = v % n - n := by
      rw [Int.tmod_eq_emod]
      split
      · exact .inl (by simp)
      · exact .inr (by omega)
    split <;> omega
  have E1 := Aside0.mk e1
  have h1 := Int.tmod_lt_of_pos v hn
  have h2 : -n < Int.tmod v n := by have := Int.lt_tmod_of_pos v hn; omega
  obtain ⟨m, hm⟩ : ∃ m, Int.tmod v n = m := ⟨_, rfl⟩
  rw [hm] at h1 h2 e1
  have E1 := Aside0.mk e1
  clear e1
  by_cases h3 : m < 0
  · have H3 := Aside0.mk h3
    have h3b : decide (m < 0) = true := decide_eq_true h3
    go_enter Try.func9, Try.ntmps9
    go_wp2
    go_ret
    exact ⟨ret_int (by rw [E1.out, if_pos H3.out]), rfl⟩
  · have H3 := Aside0.mk h3
    have h3b : decide (m < 0) = false := decide_eq_false h3
    go_enter Try.func9, Try.ntmps9
    go_wp2
    go_ret
    exact ⟨ret_int (by rw [E1.out, if_neg (Int.not_lt.2 H3.out)]), rfl⟩

/-- The draws of the document: the i-th. -/
theorem draw_calls (A : Option Addr) (c : Nat) (ds : List Int) (i : Nat) (hi : i ≤ 2147483648) (w : World) (hr : Kd.C (Kd.int .i64) w A ds.length ds) :
    Calls Try.prog 20 #[.slice A ds.length c, .int .i64 i] w fun e w' => e = .returned (.int .i64 (drawAt ds i)) ∧ w = w' := by
  by_cases h0 : ds.length = 0
  · have h0b : (ds.length == 0) = true := beq_iff_eq.mpr h0
    have H0 := Aside0.mk h0
    clear h0
    go_enter Try.func20, Try.ntmps20
    go_wp2
    go_ret
    exact ⟨ret_int (by rw [drawAt, if_pos H0.out]), rfl⟩
  · have h0b : ((ds.length : Int) == 0) = false := beq_eq_false_iff_ne.mpr (by omega)
    have h0c : (ds.length == 0) = false := beq_eq_false_iff_ne.mpr (by omega)
    have hl0 : (0 : Int) < ds.length := by omega
    have hr0 : 0 ≤ Int.tmod i ds.length := Int.tmod_nonneg _ (by omega)
    have hr1 : Int.tmod i ds.length < ds.length := Int.tmod_lt_of_pos _ hl0
    obtain ⟨r, hr'⟩ : ∃ r, Int.tmod i ds.length = r := ⟨_, rfl⟩
    rw [hr'] at hr0 hr1
    obtain ⟨ad, rfl, hxd⟩ := Kd.at_int hr r hr0 hr1
    have H0 := Aside0.mk h0
    clear h0 hr hl0
    go_enter Try.func20, Try.ntmps20
    go_wp2
    go_ret

    exact ⟨ret_int (by rw [drawAt, if_neg H0.out, hr']; exact mn_mx _ _ _ (by decide)), rfl⟩
end Go.Proofs.Ytgmkmdlcifhlaaa.Fair
