/- That the layer answers at all; the walk of the law on texts; a struct of seven fields, opened. Conditions: the words fit 64 bits, the numbers int64; the library's table of powers of ten lies as its text lays it. -/
import Derived.Test.YtjcgachdnkdamaaDoorSsw
import Derived.Test.YtjcgachdnkdamaaDoorSll
import Derived.Test.YtjcgachdnkdamaaDoorOpn
import Derived.Lib.SmallJoins
namespace Go.Proofs.YtjcgachdnkdamaaDoor
open Go.RowKit Flt Go.Mem

theorem awake_row (w : World) : FRow (w.alloc (.cells #[.float .f64 4607182418800017408, .float .f64 6103021453049119613, .float .f64 4607182418800017408, .float .f64 15326393489903895421] 25)) (w.heap.size + 1) (some ⟨w.heap.size, 0, none⟩) 4 [4607182418800017408, 6103021453049119613, 4607182418800017408, 15326393489903895421] := by
  refine ⟨rfl, fun _ => ⟨w.heap.size, 0, rfl, by omega, fun i hi => ?_⟩⟩
  have h4 : i = 0 ∨ i = 1 ∨ i = 2 ∨ i = 3 := by omega
  rcases h4 with rfl | rfl | rfl | rfl <;> simp [fat, go_sem]
theorem sum4_any (w : World) : Calls Tryd.prog 10 #[.slice (some ⟨w.heap.size, 0, none⟩) 4 4] (w.alloc (.cells #[.float .f64 4607182418800017408, .float .f64 6103021453049119613, .float .f64 4607182418800017408, .float .f64 15326393489903895421] 25))
    fun e w' => e = .returned (.float .f64 4611686018427387904) ∧ ∃ d, w' = (w.alloc (.cells #[.float .f64 4607182418800017408, .float .f64 6103021453049119613, .float .f64 4607182418800017408, .float .f64 15326393489903895421] 25)).drewN d :=
  (sum_any _ _ _ _ _ _ (awake_row w) (by omega) (by decide)).mono fun e w' h => by rw [sum_awake] at h; exact h
theorem text15_any (w : World) (hp : Pow10 w) : Calls Tryd.prog 12 #[.float .f64 4609434218613702656] w fun e w' => e = .returned (.string ⟨#[49, 46, 53, 48, 48]⟩) ∧ Below w.heap.size w w' :=
  (stext_any _ (by decide) w hp).mono fun e w' h => by rw [text_awake] at h; exact h
theorem Pow10.alloc {w : World} (h : Pow10 w) (o : Obj) : Pow10 (w.alloc o) := h.below ((Below.refl _ _).alloc (Nat.le_refl _) _)
theorem Pow10.drewN {w : World} (h : Pow10 w) (d : Nat) : Pow10 (w.drewN d) := h.below (below_drewN (Below.refl _ _) _)
set_option maxHeartbeats 1600000 in
theorem awake_any (w : World) (hp : Pow10 w) : Calls Tryd.prog 11 #[] w fun e w' => e = .returned (.bool true) ∧ Below w.heap.size w w' := by
  have HP := Lib.hid hp
  clear hp
  have a4 : feq 4611686018427387904 4611686018427387904 = true := by decide +kernel
  go_enter Tryd.func11, Tryd.ntmps11
  go_wp2_with (fail)
  refine (sum4_any w).mono ?_
  rintro e w' ⟨rfl, d, rfl⟩
  go_wp2_with (fail)
  refine (text15_any _ ((HP.out.alloc _).drewN d)).mono ?_
  rintro e w2 ⟨rfl, hb⟩
  go_wp2
  go_ret
  exact ⟨rfl, (below_drewN ((Below.refl _ _).alloc (Nat.le_refl _) _) d).trans (hb.mono (by simp))⟩
section
open Go.Joins Go.ChangeShapes Go.WideShapes Go.RowKit Go.Deep
variable {H : Type} {enc : TypeId × Value → H} {P : Program} {w : World} {base : Nat} {spare : Nat → Bool} {held : Bool}
theorem open_agg7 {r : Reach} {b0 : Nat} {t : TypeId} {f0 f1 f2 f3 f4 f5 f6 : Field} {v : Value} {d : DataW H} {p : List MemPlace} (hs : P.underlying t = some (.struct #[f0, f1, f2, f3, f4, f5, f6])) (hone : oneCellFields P #[f0, f1, f2, f3, f4, f5, f6] = true) (hC : P.cellsOf t = 7)
    (hv : Value.okWide P w r b0 t v) (h : DataW.Trod enc P w base spare held t v d p) :
    ∃ (v0 v1 v2 v3 v4 v5 v6 : Value) (y0 y1 y2 y3 y4 y5 y6 : DataW H × List MemPlace) (n : Nat), v = .agg #[v0, v1, v2, v3, v4, v5, v6] ∧
      DataW.trod enc P w base spare held n f0.type [v0] = some y0 ∧ DataW.trod enc P w base spare held n f1.type [v1] = some y1 ∧ DataW.trod enc P w base spare held n f2.type [v2] = some y2 ∧ DataW.trod enc P w base spare held n f3.type [v3] = some y3 ∧ DataW.trod enc P w base spare held n f4.type [v4] = some y4 ∧ DataW.trod enc P w base spare held n f5.type [v5] = some y5 ∧ DataW.trod enc P w base spare held n f6.type [v6] = some y6 := by
  obtain ⟨cs, rfl, hsz⟩ := okWide_struct hs hv
  obtain ⟨l⟩ := cs
  match l, hsz.trans hC with
  | [c0, c1, c2, c3, c4, c5, c6], _ =>
    obtain ⟨fuel, hf⟩ := h
    obtain ⟨xs, n, _, hx, _, hlen, hg⟩ := DataW.trod_struct hs hf
    obtain ⟨o0, k0⟩ := hone_of hone 0 f0 rfl
    obtain ⟨o1, k1⟩ := hone_of hone 1 f1 rfl
    obtain ⟨o2, k2⟩ := hone_of hone 2 f2 rfl
    obtain ⟨o3, k3⟩ := hone_of hone 3 f3 rfl
    obtain ⟨o4, k4⟩ := hone_of hone 4 f4 rfl
    obtain ⟨o5, k5⟩ := hone_of hone 5 f5 rfl
    obtain ⟨o6, k6⟩ := hone_of hone 6 f6 rfl
    match xs, hlen with
    | [y0, y1, y2, y3, y4, y5, y6], _ =>
      exact ⟨c0, c1, c2, c3, c4, c5, c6, y0, y1, y2, y3, y4, y5, y6, n, rfl, by simpa [Value.cells, o0, k0] using hg 0 f0 rfl, by simpa [Value.cells, o1, k1] using hg 1 f1 rfl, by simpa [Value.cells, o2, k2] using hg 2 f2 rfl, by simpa [Value.cells, o3, k3] using hg 3 f3 rfl, by simpa [Value.cells, o4, k4] using hg 4 f4 rfl, by simpa [Value.cells, o5, k5] using hg 5 f5 rfl, by simpa [Value.cells, o6, k6] using hg 6 f6 rfl⟩
end
section
open Go.ChangeShapes Go.WideShapes Go.RowKit Go.Deep
variable {H : Type} {enc : TypeId × Value → H} {P : Program} {w : World}
theorem trod_int1 {e : TypeId} {k : IntKind} {n : Nat} {v : Value} {x : DataW H × List MemPlace} {base : Nat} {sp : Nat → Bool} {held : Bool} (he : P.underlying e = some (.int k)) (h : DataW.trod enc P w base sp held n e [v] = some x) : ∃ b, v = .int k b ∧ (Lit.int k b).wf = true := by
  cases n with
  | zero => simp [DataW.trod] at h
  | succ n =>
    simp only [DataW.trod, he] at h
    cases v <;> simp at h
    rename_i k' b
    obtain ⟨⟨rfl, h2⟩, _⟩ := h
    exact ⟨b, rfl, h2⟩
theorem open_sum {v : Value} {d : DataW H} {p : List MemPlace} {b0 : Nat} (hv : Value.okWide Tryd.prog w .any b0 30 v) (h : DataW.Trod enc Tryd.prog w 0 (fun _ => true) true 30 v d p) :
    ∃ (n a i : Int) (l m q e : Nat), v = sumV n a i l m q e ∧ (-9223372036854775808 ≤ n ∧ n ≤ 9223372036854775807) ∧ (-9223372036854775808 ≤ a ∧ a ≤ 9223372036854775807) ∧ (-9223372036854775808 ≤ i ∧ i ≤ 9223372036854775807) ∧
      l < 18446744073709551616 ∧ m < 18446744073709551616 ∧ q < 18446744073709551616 ∧ e < 18446744073709551616 := by
  obtain ⟨v0, v1, v2, v3, v4, v5, v6, y0, y1, y2, y3, y4, y5, y6, n, rfl, h0, h1, h2, h3, h4, h5, h6⟩ := open_agg7 Tryd.underlying30 (by kernel_rfl) (by kernel_rfl) hv h
  obtain ⟨a0, rfl, w0⟩ := trod_int1 Tryd.underlying3 h0
  obtain ⟨a1, rfl, w1⟩ := trod_int1 Tryd.underlying3 h1
  obtain ⟨a2, rfl, w2⟩ := trod_int1 Tryd.underlying3 h2
  obtain ⟨a3, rfl, w3⟩ := trod_float1 Tryd.underlying25 h3
  obtain ⟨a4, rfl, w4⟩ := trod_float1 Tryd.underlying25 h4
  obtain ⟨a5, rfl, w5⟩ := trod_float1 Tryd.underlying25 h5
  obtain ⟨a6, rfl, w6⟩ := trod_float1 Tryd.underlying25 h6
  exact ⟨a0, a1, a2, a3, a4, a5, a6, rfl, bounds_i64 w0, bounds_i64 w1, bounds_i64 w2, w3, w4, w5, w6⟩
end
set_option maxRecDepth 100000 in
set_option maxHeartbeats 6400000 in
theorem StatsTexts_walk (f : Nat) (n a i : Int) (l m h e : Nat) (w : World) (hf : f < 18446744073709551616) (bn : -9223372036854775808 ≤ n ∧ n ≤ 9223372036854775807) (ba : -9223372036854775808 ≤ a ∧ a ≤ 9223372036854775807) (bi : -9223372036854775808 ≤ i ∧ i ≤ 9223372036854775807)
    (hl : l < 18446744073709551616) (hm : m < 18446744073709551616) (hh : h < 18446744073709551616) (he : e < 18446744073709551616) (hp : Pow10 w) :
    Calls Tryd.prog 4 #[.float .f64 f, sumV n a i l m h e] w fun z w' => z = .returned (.bool true) ∧ Below w.heap.size w w' := by
  obtain ⟨n0, n1⟩ := bn
  obtain ⟨a0, a1⟩ := ba
  obtain ⟨i0, i1⟩ := bi
  have LI := fun W (hW : Pow10 W) => line_any n a i l m h e n0 n1 a0 a1 i0 i1 hl hm hh he W hW
  have RLI := fun W => rline_any n a i l m h e n0 n1 a0 a1 i0 i1 hl hm hh he W
  have LI2 := Lib.hid LI
  have RLI2 := Lib.hid RLI
  clear LI RLI hl hm hh he n0 n1 a0 a1 i0 i1
  unfold sumV at *
  go_enter Tryd.func4, Tryd.ntmps4
  go_wp2_with (fail)
  have hB0 := fun o => ((Below.refl w.heap.size w).alloc (Nat.le_refl _) o).drew
  go_region_held3 (fun w' => w'.cell? ⟨w.heap.size, 0, none⟩ = some (.int .i64 n) ∧ w'.cell? ⟨w.heap.size, 1, none⟩ = some (.int .i64 a) ∧ w'.cell? ⟨w.heap.size, 2, none⟩ = some (.int .i64 i) ∧ w'.cell? ⟨w.heap.size, 3, none⟩ = some (.float .f64 l) ∧ w'.cell? ⟨w.heap.size, 4, none⟩ = some (.float .f64 m) ∧ w'.cell? ⟨w.heap.size, 5, none⟩ = some (.float .f64 h) ∧ w'.cell? ⟨w.heap.size, 6, none⟩ = some (.float .f64 e) ∧ Below w.heap.size w w')
    (first | exact held_keep (by assumption) hb | go_keep)
    (first | (go_at_call 12; refine (stext_any _ hf _ (hp.below (heldB (by assumption)))).mono ?_; rintro z w' ⟨rfl, hb⟩) | (go_at_call 13; refine (rtextS_any _ hf _).mono ?_; rintro z w' ⟨rfl, hb⟩) | (go_at_call 14; refine (LI2.out _ (hp.below (heldB (by assumption)))).mono ?_; rintro z w' ⟨rfl, hb⟩) | (go_at_call 15; refine (RLI2.out _).mono ?_; rintro z w' ⟨rfl, hb⟩) | (go_at_call 11; refine (awake_any _ (hp.below (heldB (by assumption)))).mono ?_; rintro z w' ⟨rfl, hb⟩))
  go_wp2
  go_ret
  exact ⟨rfl, heldB (by assumption)⟩

end Go.Proofs.YtjcgachdnkdamaaDoor
