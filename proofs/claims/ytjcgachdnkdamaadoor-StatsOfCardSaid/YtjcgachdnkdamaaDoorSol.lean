/- The walk of the law on what any list is like. Conditions: lists of less than 2^45 floats, words of 64 bits; the library's table of powers of ten lies as its text lays it. -/
import Derived.Test.YtjcgachdnkdamaaDoorSor
namespace Go.Proofs.YtjcgachdnkdamaaDoor
open Go.RowKit Flt Go.Mem Go.Lib
set_option linter.unusedVariables false

attribute [local go_sem] run_store_float
set_option maxHeartbeats 6400000
set_option maxRecDepth 100000
theorem heldB14 {w0 w : World} {b0 b1 b2 b3 b4 b5 b6 b7 b8 b9 b10 b11 b12 b13 : Addr} {v0 v1 v2 v3 v4 v5 v6 v7 v8 v9 v10 v11 v12 v13 : Value} (h : w.cell? b0 = some v0 ∧ w.cell? b1 = some v1 ∧ w.cell? b2 = some v2 ∧ w.cell? b3 = some v3 ∧ w.cell? b4 = some v4 ∧ w.cell? b5 = some v5 ∧ w.cell? b6 = some v6 ∧ w.cell? b7 = some v7 ∧ w.cell? b8 = some v8 ∧ w.cell? b9 = some v9 ∧ w.cell? b10 = some v10 ∧ w.cell? b11 = some v11 ∧ w.cell? b12 = some v12 ∧ w.cell? b13 = some v13 ∧ Below w0.heap.size w0 w) : Below w0.heap.size w0 w := h.2.2.2.2.2.2.2.2.2.2.2.2.2.2
theorem held_keep14 {w0 w w' : World} {b0 b1 b2 b3 b4 b5 b6 b7 b8 b9 b10 b11 b12 b13 : Addr} {v0 v1 v2 v3 v4 v5 v6 v7 v8 v9 v10 v11 v12 v13 : Value} (h : w.cell? b0 = some v0 ∧ w.cell? b1 = some v1 ∧ w.cell? b2 = some v2 ∧ w.cell? b3 = some v3 ∧ w.cell? b4 = some v4 ∧ w.cell? b5 = some v5 ∧ w.cell? b6 = some v6 ∧ w.cell? b7 = some v7 ∧ w.cell? b8 = some v8 ∧ w.cell? b9 = some v9 ∧ w.cell? b10 = some v10 ∧ w.cell? b11 = some v11 ∧ w.cell? b12 = some v12 ∧ w.cell? b13 = some v13 ∧ Below w0.heap.size w0 w) (hb : Below w.heap.size w w') :
    w'.cell? b0 = some v0 ∧ w'.cell? b1 = some v1 ∧ w'.cell? b2 = some v2 ∧ w'.cell? b3 = some v3 ∧ w'.cell? b4 = some v4 ∧ w'.cell? b5 = some v5 ∧ w'.cell? b6 = some v6 ∧ w'.cell? b7 = some v7 ∧ w'.cell? b8 = some v8 ∧ w'.cell? b9 = some v9 ∧ w'.cell? b10 = some v10 ∧ w'.cell? b11 = some v11 ∧ w'.cell? b12 = some v12 ∧ w'.cell? b13 = some v13 ∧ Below w0.heap.size w0 w' :=
  ⟨keep_cell h.1 hb, keep_cell h.2.1 hb, keep_cell h.2.2.1 hb, keep_cell h.2.2.2.1 hb, keep_cell h.2.2.2.2.1 hb, keep_cell h.2.2.2.2.2.1 hb, keep_cell h.2.2.2.2.2.2.1 hb, keep_cell h.2.2.2.2.2.2.2.1 hb, keep_cell h.2.2.2.2.2.2.2.2.1 hb, keep_cell h.2.2.2.2.2.2.2.2.2.1 hb, keep_cell h.2.2.2.2.2.2.2.2.2.2.1 hb, keep_cell h.2.2.2.2.2.2.2.2.2.2.2.1 hb, keep_cell h.2.2.2.2.2.2.2.2.2.2.2.2.1 hb, keep_cell h.2.2.2.2.2.2.2.2.2.2.2.2.2.1 hb, keep_below h.2.2.2.2.2.2.2.2.2.2.2.2.2.2 hb⟩
theorem same2_any (N a i : Int) (le mi mo me : Nat) (w : World) : Calls Tryd.prog 31 #[sumV N a i le mi mo me, sumV N a i le mi mo me] w fun e w' => e = .returned (.bool true) ∧ Below w.heap.size w w' := by
  unfold sumV
  go_enter Tryd.func31, Tryd.ntmps31
  go_wp2_with (go_at_call 21; refine (same_any _ _).mono ?_; rintro e w' ⟨rfl, rfl⟩)
  go_ret
  exact ⟨rfl, ((Below.refl _ _).alloc (Nat.le_refl _) _).alloc (by simp) _⟩
theorem StatsOf_walk (A : Option Addr) (n c : Nat) (l : List Nat) (w : World) (hx : FRow w w.heap.size A n l) (hxm : n * 8 ≤ 140737488355328) (hlt : ∀ x ∈ l, x < 18446744073709551616) (hp : Pow10 w) :
    Calls Tryd.prog 9 #[.slice A n c] w fun e w' => e = .returned (.bool true) ∧ Below w.heap.size w w' := by
  have O := Lib.hid (fun w' (hb : Below w.heap.size w w') => own2_any A n c l w w' hx hxm hb)
  have OF := Lib.hid (fun A' c' w' (h : FRow w' w'.heap.size A' n l) => of_any A' n c' l w' h hxm hlt)
  have ROF := Lib.hid (fun w' (hb : Below w.heap.size w w') => rof_any A n c l w' ((hx.below hb).more hb.size) hxm hlt)
  have HLT := Lib.hid hlt
  have HPW := Lib.hid hp
  clear hx hp hlt
  unfold sumV at OF ROF
  go_enter Tryd.func9, Tryd.ntmps9
  go_wp2_with (fail)
  refine (O.out w (Below.refl _ _)).mono ?_
  rintro e w1 ⟨B1, d1, rfl, HF1, HK1, HB1⟩
  go_wp2_with (fail)
  refine (OF.out B1 d1 w1 HF1.out).mono ?_
  rintro e w2 ⟨N, a, i, le, mi, mo, me, rfl, hv, hb2⟩
  have HB2 := Lib.hid (HB1.out.trans (hb2.mono HB1.out.size))
  have HV := Lib.hid hv
  clear hv hb2
  have HB3 := Lib.hid (HB2.out.alloc HB2.out.size (.cells #[.int .i64 N, .int .i64 a, .int .i64 i, .float .f64 le, .float .f64 mi, .float .f64 mo, .float .f64 me] 30))
  have HO3 := Lib.hid (show OB (w2.alloc (.cells #[.int .i64 N, .int .i64 a, .int .i64 i, .float .f64 le, .float .f64 mi, .float .f64 mo, .float .f64 me] 30)) w2.heap.size N a i le mi mo me from Go.heap_alloc_new w2 _)
  go_wp2_with (fail)
  refine (ROF.out _ HB3.out).mono ?_
  rintro e w4 ⟨N2, a2, i2, le2, mi2, mo2, me2, rfl, hv, hb4⟩
  obtain ⟨rfl, rfl, rfl, rfl, rfl, rfl, rfl⟩ := HV.out.one hv
  have HO4 := Lib.hid (HO3.out.below hb4 HO3.out.lt)
  have hgl := HO4.out.lt
  have HB4 := Lib.hid (HB3.out.trans (hb4.mono HB3.out.size))
  obtain ⟨bN, ba, bi, hle, hmi, hmo, hme⟩ := hv.lt HLT.out (by omega)
  clear hv hb4 HV HB3 HO3
  have HO5 := Lib.hid (show OB (w4.alloc (.cells #[.int .i64 N, .int .i64 a, .int .i64 i, .float .f64 le, .float .f64 mi, .float .f64 mo, .float .f64 me] 30)) w2.heap.size N a i le mi mo me from (Go.heap_alloc_old w4 _ hgl).trans HO4.out)
  have HO6 := Lib.hid (show OB (w4.alloc (.cells #[.int .i64 N, .int .i64 a, .int .i64 i, .float .f64 le, .float .f64 mi, .float .f64 mo, .float .f64 me] 30)) w4.heap.size N a i le mi mo me from Go.heap_alloc_new w4 _)
  have HB5 := Lib.hid (HB4.out.alloc HB4.out.size (.cells #[.int .i64 N, .int .i64 a, .int .i64 i, .float .f64 le, .float .f64 mi, .float .f64 mo, .float .f64 me] 30))
  have SA := Lib.hid (fun W => same2_any N a i le mi mo me W)
  have LI := Lib.hid (fun W hW => line_any N a i le mi mo me bN.1 bN.2 ba.1 ba.2 bi.1 bi.2 hle hmi hmo hme W hW)
  have RLI := Lib.hid (fun W => rline_any N a i le mi mo me bN.1 bN.2 ba.1 ba.2 bi.1 bi.2 hle hmi hmo hme W)
  clear bN ba bi hle hmi hmo hme
  unfold sumV at SA LI RLI
  have cA0 := HO5.out.c0.1
  have cB0 := HO6.out.c0.1
  have cA1 := HO5.out.c1.1
  have cB1 := HO6.out.c1.1
  have cA2 := HO5.out.c2.1
  have cB2 := HO6.out.c2.1
  have cA3 := HO5.out.c3.1
  have cB3 := HO6.out.c3.1
  have cA4 := HO5.out.c4.1
  have cB4 := HO6.out.c4.1
  have cA5 := HO5.out.c5.1
  have cB5 := HO6.out.c5.1
  have cA6 := HO5.out.c6.1
  have cB6 := HO6.out.c6.1
  have hB5 := HB5.out
  have hB6 := HB5.out.drew
  go_wp2_with (fail)
  go_region_held3 (fun w' => w'.cell? ⟨w2.heap.size, 0, none⟩ = some (.int .i64 N) ∧ w'.cell? ⟨w2.heap.size, 1, none⟩ = some (.int .i64 a) ∧ w'.cell? ⟨w2.heap.size, 2, none⟩ = some (.int .i64 i) ∧ w'.cell? ⟨w2.heap.size, 3, none⟩ = some (.float .f64 le) ∧ w'.cell? ⟨w2.heap.size, 4, none⟩ = some (.float .f64 mi) ∧ w'.cell? ⟨w2.heap.size, 5, none⟩ = some (.float .f64 mo) ∧ w'.cell? ⟨w2.heap.size, 6, none⟩ = some (.float .f64 me) ∧ w'.cell? ⟨w4.heap.size, 0, none⟩ = some (.int .i64 N) ∧ w'.cell? ⟨w4.heap.size, 1, none⟩ = some (.int .i64 a) ∧ w'.cell? ⟨w4.heap.size, 2, none⟩ = some (.int .i64 i) ∧ w'.cell? ⟨w4.heap.size, 3, none⟩ = some (.float .f64 le) ∧ w'.cell? ⟨w4.heap.size, 4, none⟩ = some (.float .f64 mi) ∧ w'.cell? ⟨w4.heap.size, 5, none⟩ = some (.float .f64 mo) ∧ w'.cell? ⟨w4.heap.size, 6, none⟩ = some (.float .f64 me) ∧ Below w.heap.size w w')
    (first | exact held_keep14 (by assumption) hb | go_keep)
    (first | (go_at_call 31; refine (SA.out _).mono ?_; rintro z w' ⟨rfl, hb⟩) | (go_at_call 14; refine (LI.out _ (HPW.out.below (heldB14 (by assumption)))).mono ?_; rintro z w' ⟨rfl, hb⟩) | (go_at_call 15; refine (RLI.out _).mono ?_; rintro z w' ⟨rfl, hb⟩) | (go_at_call 11; refine (awake_any _ (HPW.out.below (heldB14 (by assumption)))).mono ?_; rintro z w' ⟨rfl, hb⟩))
  go_wp2
  go_ret
  exact ⟨rfl, heldB14 (by assumption)⟩

end Go.Proofs.YtjcgachdnkdamaaDoor
