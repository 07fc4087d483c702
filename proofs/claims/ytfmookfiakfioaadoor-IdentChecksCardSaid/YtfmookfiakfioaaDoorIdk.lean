/- The walks of the laws on checks, sums and draws. Conditions: as Idl's. -/
import Derived.Test.YtfmookfiakfioaaDoorIdl
namespace Go.Proofs.YtfmookfiakfioaaDoor
open Go.RowKit Go.Mem Idn Go.Proofs.YtfmookfiakfioaaDoorW.PrintWords Go.Lib Go.Shelf
open Go.Sort hiding Below
set_option linter.unusedVariables false

set_option maxHeartbeats 1600000 in
theorem IdentChecks_walk (a : Int) (s : ByteArray) (w : World) (wa : (Lit.int .i64 a).wf = true) (hs : s.size ≤ 140737488351232) (hp : Pow10 w) : Calls Tryd.prog 3 #[.int .i64 a, .string s] w fun e w' => e = .returned (.bool true) ∧ Below w.heap.size w w' := by
  clear wa
  have HP := Lib.hid hp
  clear hp
  go_enter Tryd.func3, Tryd.ntmps3
  go_wp2_with (fail)
  refine (idB a _).mono ?_
  rintro e w1 ⟨rfl, hb1⟩
  have HB1 := Lib.hid hb1
  clear hb1
  go_wp2_with (fail)
  refine (ridB a _).mono ?_
  rintro e w2 ⟨rfl, hb2⟩
  have HB2 := Lib.hid (HB1.out.trans (hb2.mono HB1.out.size))
  clear hb2
  go_wp2_with (fail)
  refine (nameB s _).mono ?_
  rintro e w3 ⟨rfl, hb3⟩
  have HB3 := Lib.hid (HB2.out.trans (hb3.mono HB2.out.size))
  clear hb3
  go_wp2_with (fail)
  refine (rnameB s _).mono ?_
  rintro e w4 ⟨rfl, hb4⟩
  have HB4 := Lib.hid (HB3.out.trans (hb4.mono HB3.out.size))
  clear hb4
  go_wp2_with (fail)
  refine (awake_any _ (HP.out.below HB4.out)).mono ?_
  rintro e w5 ⟨rfl, hb5⟩
  have HB5 := Lib.hid (HB4.out.trans (hb5.mono HB4.out.size))
  clear hb5
  go_wp2
  go_ret
  exact ⟨rfl, HB5.out⟩
set_option maxHeartbeats 1600000 in
theorem IdentSums_walk (s : ByteArray) (x a : Int) (w : World) (hs : s.size ≤ 140737488351232) (wx : (Lit.int .u64 x).wf = true) (wa : (Lit.int .i64 a).wf = true) (hp : Pow10 w) : Calls Tryd.prog 7 #[.string s, .int .u64 x, .int .i64 a] w fun e w' => e = .returned (.bool true) ∧ Below w.heap.size w w' := by
  clear wa wx
  have HS := Lib.hid (show s.size ≤ 9223372036854775807 by omega)
  have HP := Lib.hid hp
  clear hp
  go_enter Tryd.func7, Tryd.ntmps7
  go_wp2_with (fail)
  refine (scoreFB a s HS.out _).mono ?_
  rintro e w1 ⟨rfl, hb1⟩
  have HB1 := Lib.hid hb1
  clear hb1
  go_wp2_with (fail)
  refine (rscoreFB a s HS.out _).mono ?_
  rintro e w2 ⟨rfl, hb2⟩
  have HB2 := Lib.hid (HB1.out.trans (hb2.mono HB1.out.size))
  clear hb2
  go_wp2_with (fail)
  refine (sumB_any s HS.out _).mono ?_
  rintro e w3 ⟨rfl, hb3⟩
  have HB3 := Lib.hid (HB2.out.trans (hb3.mono HB2.out.size))
  clear hb3
  go_wp2_with (fail)
  refine (rsumB s HS.out _).mono ?_
  rintro e w4 ⟨rfl, hb4⟩
  have HB4 := Lib.hid (HB3.out.trans (hb4.mono HB3.out.size))
  clear hb4
  go_wp2_with (fail)
  refine (mixB x _).mono ?_
  rintro e w5 ⟨rfl, hb5⟩
  have HB5 := Lib.hid (HB4.out.trans (hb5.mono HB4.out.size))
  clear hb5
  go_wp2_with (fail)
  refine (rmixB x _).mono ?_
  rintro e w6 ⟨rfl, hb6⟩
  have HB6 := Lib.hid (HB5.out.trans (hb6.mono HB5.out.size))
  clear hb6
  go_wp2_with (fail)
  refine (awake_any _ (HP.out.below HB6.out)).mono ?_
  rintro e w7 ⟨rfl, hb7⟩
  have HB7 := Lib.hid (HB6.out.trans (hb7.mono HB6.out.size))
  clear hb7
  go_wp2
  go_ret
  exact ⟨rfl, HB7.out⟩
theorem ordLen {l : List Int} {s : ByteArray} (hl : l.length ≤ 17592186043904) : (orderL l s).length ≤ 17592186043904 := by
  unfold orderL; split
  · rw [ordL_len]; exact hl
  · simp
set_option maxRecDepth 100000 in
set_option maxHeartbeats 3200000 in
theorem IdentDraws_core (A : Option Addr) (c : Nat) (l : List Int) (s : ByteArray) (w : World) (hr : (Kd.int .i64).C w A l.length l) (hl : l.length ≤ 17592186043904) (hc : l.length ≤ c) (hs : s.size ≤ 140737488351232) (hp : Pow10 w) :
    Calls Tryd.prog 4 #[.slice A l.length c, .string s] w fun e w' => e = .returned (.bool true) ∧ Below w.heap.size w w' := by
  have HS := Lib.hid (show s.size ≤ 9223372036854775807 by omega)
  have HP := Lib.hid hp
  have hC := Lib.hid hr
  clear hp hr
  go_enter Tryd.func4, Tryd.ntmps4
  go_wp2_with (fail)
  refine (copiedB A c l hl hc _ hC.out).mono ?_
  rintro e w1 ⟨A1, c1, rfl, hc1, hC1, hb1, hA1⟩
  have HB1 := Lib.hid hb1
  clear hb1
  have HC1 := Lib.hid hC1
  clear hC1
  go_wp2_with (fail)
  refine (draw_any A1 l.length c1 l s _ HC1.out hA1 hl HS.out).mono ?_
  rintro e w2 ⟨rfl, hb2⟩
  have HB2 := Lib.hid (HB1.out.trans (hb2.mono HB1.out.size))
  clear hb2
  clear hA1
  go_wp2_with (fail)
  refine (rdrawB A c l s HS.out hl hc _ (Kd.C_below hC.out HB2.out)).mono ?_
  rintro e w3 ⟨rfl, hb3⟩
  have HB3 := Lib.hid (HB2.out.trans (hb3.mono HB2.out.size))
  clear hb3
  go_wp2_with (fail)
  refine (copiedB A c l hl hc _ (Kd.C_below hC.out HB3.out)).mono ?_
  rintro e w4 ⟨A4, c4, rfl, hc4, hC4, hb4, hA4⟩
  have HB4 := Lib.hid (HB3.out.trans (hb4.mono HB3.out.size))
  clear hb4
  have HC4 := Lib.hid hC4
  clear hC4
  go_wp2_with (fail)
  refine (order_any A4 l.length c4 l s _ HC4.out hA4 hl HS.out).mono ?_
  rintro e w5 ⟨A5, c5, rfl, hc5, hC5, hb5, hA5⟩
  have HB5 := Lib.hid (HB4.out.trans (hb5.mono HB4.out.size))
  clear hb5
  have HC5 := Lib.hid hC5
  clear hC5 hA4 hA5
  go_wp2_with (fail)
  refine (rorderB A c l s HS.out hl hc _ (Kd.C_below hC.out HB5.out)).mono ?_
  rintro e w6 ⟨A6, c6, rfl, hc6, hC6, hb6, hA6⟩
  have hb6x := hb6
  have HB6 := Lib.hid (HB5.out.trans (hb6.mono HB5.out.size))
  clear hb6
  have HC6 := Lib.hid hC6
  have HC5b := Lib.hid (Kd.C_below HC5.out hb6x)
  clear hC6 hA6 hb6x
  go_wp2_with (fail)
  refine (sameB A5 A6 c5 c6 _ (ordLen hl) hc5 hc6 _ HC5b.out HC6.out).mono ?_
  rintro e w7 ⟨rfl, hb7⟩
  have HB7 := Lib.hid (HB6.out.trans (hb7.mono HB6.out.size))
  clear hb7
  go_wp2_with (fail)
  refine (awake_any _ (HP.out.below HB7.out)).mono ?_
  rintro e w8 ⟨rfl, hb8⟩
  have HB8 := Lib.hid (HB7.out.trans (hb8.mono HB7.out.size))
  clear hb8
  go_wp2
  go_ret
  exact ⟨rfl, HB8.out⟩
theorem IdentDraws_walk (A : Option Addr) (n c : Nat) (f : Nat → Int) (s : ByteArray) (w : World) (hr : IRow .i64 w w.heap.size A n f) (wf : ∀ i, i < n → (Lit.int .i64 (f i)).wf = true) (hn : n ≤ 17592186043904) (hc : n ≤ c) (hs : s.size ≤ 140737488351232) (hp : Pow10 w) :
    Calls Tryd.prog 4 #[.slice A n c, .string s] w fun e w' => e = .returned (.bool true) ∧ Below w.heap.size w w' := by
  have h := IdentDraws_core A c ((List.range n).map f) s w (irow_kd hr (by omega)) (by simpa using hn) (by simpa using hc) hs hp
  rw [List.length_map, List.length_range] at h
  exact h

end Go.Proofs.YtfmookfiakfioaaDoor
