/- The walks of the laws on sums and on quantiles. Conditions: lists of less than 2^45 floats; the library's table of powers of ten lies as its text lays it. -/
import Derived.Test.YtjcgachdnkdamaaDoorSqw
namespace Go.Proofs.YtjcgachdnkdamaaDoor
open Go.RowKit Flt Go.Mem Go.Lib
set_option linter.unusedVariables false

set_option maxHeartbeats 3200000
theorem own2_any (A : Option Addr) (n c : Nat) (l : List Nat) (w0 w : World) (hl : FRow w0 w0.heap.size A n l) (hn : n * 8 ≤ 140737488355328) (hb : Below w0.heap.size w0 w) :
    Calls Tryd.prog 17 #[.slice A n c] w fun e w' => ∃ A' c', e = .returned (.slice A' n c') ∧ Hid (FRow w' w'.heap.size A' n l) ∧ Hid (A' = none ∨ ∃ b off, A' = some ⟨b, off, none⟩) ∧ Hid (Below w0.heap.size w0 w') := by
  obtain ⟨iF, hiF, hzF0, hzF1, hzF2⟩ := info_parts infoF2
  have h63 : 0 + n ≤ maxLen := by unfold maxLen; omega
  have hby : (0 + n) * 8 ≤ 140737488355328 := by omega
  have hone : ∀ u ∈ l.map (Value.float .f64), u.oneCell' = true := by
    intro u hu; obtain ⟨x, _, rfl⟩ := List.mem_map.1 hu; rfl
  have hr := ((hl.below hb).more hb.size).to_row
  have HB := Lib.hid hb
  clear hl hb
  go_enter Tryd.func17, Tryd.ntmps17
  go_wp2_with (at_builtin; refine wpList_append_row _ rfl (.tmp 4) (.tmp 5) _ rfl w.heap.size 25 iF (.float .f64 0) 1 8 Tryd.underlying24 hiF hzF0 hzF1 hzF2 rfl (by decide) (.slice none 0 0) 0 [] rfl ⟨rfl, .inl ⟨rfl, rfl⟩⟩ w.heap.size A n c (l.map (Value.float .f64)) rfl hr hone h63 hby (Nat.le_refl _) ?_; intro v1 w1 hown1 hg1; have hbw1 : Below w.heap.size w w1 := (Below.refl _ _).grown hg1 (Nat.le_refl _) (by simp [Value.ownBlock]))
  rw [Nat.zero_add, List.nil_append] at hown1
  obtain ⟨A1, c1, rfl⟩ := own_form hown1
  clear hg1 hr hone hiF hzF0 hzF1 hzF2
  go_wp2
  go_ret
  exact ⟨_, _, rfl, Lib.hid (FRow.of_own hown1), Lib.hid (own_kind hown1), Lib.hid (HB.out.trans (hbw1.mono HB.out.size))⟩
theorem StatsSums_walk (A : Option Addr) (n c : Nat) (l : List Nat) (w : World) (hx : FRow w w.heap.size A n l) (hxm : n * 8 ≤ 140737488355328) (hlt : ∀ x ∈ l, x < 18446744073709551616) (hp : Pow10 w) :
    Calls Tryd.prog 6 #[.slice A n c] w fun e w' => e = .returned (.bool true) ∧ Below w.heap.size w w' := by
  have O := Lib.hid (fun w' (hb : Below w.heap.size w w') => own2_any A n c l w w' hx hxm hb)
  have ME := Lib.hid (fun A' c' w' (h : FRow w' w'.heap.size A' n l) => smean_any A' n c' _ l w' h (by omega) hlt)
  have RME := Lib.hid (fun w' (hb : Below w.heap.size w w') => rmean_any A n c _ l w' (hx.below hb) (by omega) hlt)
  have SU := Lib.hid (fun A' c' w' (h : FRow w' w'.heap.size A' n l) => sum_any A' n c' _ l w' h (by omega) hlt)
  have RSU := Lib.hid (fun w' (hb : Below w.heap.size w w') => rsum_any A n c _ l w' (hx.below hb) (by omega) hlt)
  have SO := Lib.hid (fun A' c' w' (h : FRow w' w'.heap.size A' n l) hA => sorted_any A' n c' l w' h hA hxm)
  have RSO := Lib.hid (fun w' (hb : Below w.heap.size w w') => rsorted_any A n c l w' ((hx.below hb).more hb.size) hxm)
  have AW := Lib.hid (fun w' (h : Below w.heap.size w w') => awake_any w' (hp.below h))
  clear hx hp hlt
  go_enter Tryd.func6, Tryd.ntmps6
  go_wp2_with (fail)
  refine (O.out w (Below.refl _ _)).mono ?_
  rintro e w1 ⟨B1, d1, rfl, HF1, HK1, HB1⟩
  go_wp2_with (fail)
  refine (ME.out B1 d1 w1 HF1.out).mono ?_
  rintro e w2 ⟨rfl, q1, rfl⟩
  go_wp2_with (fail)
  refine (RME.out _ (below_drewN HB1.out q1)).mono ?_
  rintro e w2 ⟨rfl, q2, rfl⟩
  have HB2 := Lib.hid (below_drewN HB1.out (q1 + q2))
  go_wp2_with (fail)
  refine (O.out _ HB2.out).mono ?_
  rintro e w3 ⟨B3, d3, rfl, HF3, HK3, HB3⟩
  go_wp2_with (fail)
  refine (SU.out B3 d3 w3 HF3.out).mono ?_
  rintro e w2 ⟨rfl, q3, rfl⟩
  go_wp2_with (fail)
  refine (RSU.out _ (below_drewN HB3.out q3)).mono ?_
  rintro e w2 ⟨rfl, q4, rfl⟩
  have HB4 := Lib.hid (below_drewN HB3.out (q3 + q4))
  go_wp2_with (fail)
  refine (same_any _ _).mono ?_
  rintro e w2 ⟨rfl, rfl⟩
  go_wp2_with (fail)
  refine (same_any _ _).mono ?_
  rintro e w2 ⟨rfl, rfl⟩
  go_wp2_with (fail)
  refine (O.out _ HB4.out).mono ?_
  rintro e w5 ⟨B5, d5, rfl, HF5, HK5, HB5⟩
  go_wp2_with (fail)
  refine (SO.out B5 d5 w5 HF5.out HK5.out).mono ?_
  rintro e w6 ⟨B6, d6, r1, rfl, hs1, hF6, hb6⟩
  have HB6 := Lib.hid (HB5.out.trans (hb6.mono HB5.out.size))
  have HS1 := Lib.hid hs1
  have HF6 := Lib.hid hF6
  clear hs1 hF6 hb6
  go_wp2_with (fail)
  refine (RSO.out w6 HB6.out).mono ?_
  rintro e w7 ⟨B7, d7, r2, rfl, hs2, hF7, hb7⟩
  obtain rfl := HS1.out.one hs2
  have HB7 := Lib.hid (HB6.out.trans (hb7.mono HB6.out.size))
  have HF8 := Lib.hid (HF6.out.below hb7)
  have HF7 := Lib.hid hF7
  clear hs2 hF7 hb7
  go_wp2_with (fail)
  refine (samelist_any B6 B7 n d6 d7 _ _ r1 w7 HF8.out HF7.out (by omega)).mono ?_
  rintro e w8 ⟨rfl, q8, rfl⟩
  go_wp2_with (fail)
  refine (AW.out _ (below_drewN HB7.out q8)).mono ?_
  rintro e w9 ⟨rfl, hba⟩
  have HBA := Lib.hid hba
  clear hba
  go_wp2
  go_ret
  exact ⟨rfl, (below_drewN HB7.out q8).trans (HBA.out.mono (below_drewN HB7.out q8).size)⟩
theorem StatsQuantiles_walk (A : Option Addr) (n c : Nat) (l : List Nat) (th : Int) (w : World) (hx : FRow w w.heap.size A n l) (hxm : n * 8 ≤ 140737488355328) (hth : (Lit.int .i64 th).wf = true) (hp : Pow10 w) :
    Calls Tryd.prog 7 #[.slice A n c, .int .i64 th] w fun e w' => e = .returned (.bool true) ∧ Below w.heap.size w w' := by
  obtain ⟨ht0, ht1⟩ := bounds_i64 hth
  have O := Lib.hid (fun w' (hb : Below w.heap.size w w') => own2_any A n c l w w' hx hxm hb)
  have QU := Lib.hid (fun A' c' w' (h : FRow w' w'.heap.size A' n l) => squant_any A' n c' l th w' h hxm ht0 ht1)
  have RQU := Lib.hid (fun w' (hb : Below w.heap.size w w') => rquant_any A n c l th w' ((hx.below hb).more hb.size) hxm ht0 ht1)
  have AW := Lib.hid (fun w' (h : Below w.heap.size w w') => awake_any w' (hp.below h))
  clear hx hp hth ht0 ht1
  go_enter Tryd.func7, Tryd.ntmps7
  go_wp2_with (fail)
  refine (O.out w (Below.refl _ _)).mono ?_
  rintro e w1 ⟨B1, d1, rfl, HF1, HK1, HB1⟩
  go_wp2_with (fail)
  refine (QU.out B1 d1 w1 HF1.out).mono ?_
  rintro e w2 ⟨q, er, rfl, hq1, hb2⟩
  have HB2 := Lib.hid (HB1.out.trans (hb2.mono HB1.out.size))
  have HQ := Lib.hid hq1
  clear hq1 hb2
  go_wp2_with (fail)
  refine (RQU.out w2 HB2.out).mono ?_
  rintro e w3 ⟨q2, er2, rfl, hq2, hb3⟩
  obtain ⟨rfl, rfl⟩ := HQ.out.one hq2
  have HB3 := Lib.hid (HB2.out.trans (hb3.mono HB2.out.size))
  clear hq2 hb3
  go_wp2_with (fail)
  refine (same_any _ _).mono ?_
  rintro e w2 ⟨rfl, rfl⟩
  go_wp2_with (fail)
  refine (AW.out _ HB3.out).mono ?_
  rintro e w9 ⟨rfl, hba⟩
  have HBA := Lib.hid hba
  clear hba
  go_wp2
  go_ret
  exact ⟨rfl, HB3.out.trans (HBA.out.mono HB3.out.size)⟩

end Go.Proofs.YtjcgachdnkdamaaDoor
