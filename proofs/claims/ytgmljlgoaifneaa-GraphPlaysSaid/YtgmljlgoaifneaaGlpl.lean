/- The walk of the law on changes one behind the other. Conditions: the argument reads as a slice of changes. -/
import Derived.Test.YtgmljlgoaifneaaGpy
import Derived.Test.YtgmljlgoaifneaaGsm
import Derived.Test.YtgmljlgoaifneaaGck
import Derived.Laws.MakeOwn
import Derived.Laws.AppendOwnNone
namespace Go.Proofs.Ytgmljlgoaifneaa
open Go.RowKit Flt Go.Mem Go.Lib
set_option linter.unusedVariables false

attribute [local go_sem] run_store_float
set_option maxHeartbeats 6400000
set_option maxRecDepth 100000
theorem infoCG : (Try.prog.info? 38).map (fun i => (i.zero, i.size, i.bytes)) = some (some (.agg #[.int .i64 0, .int .i64 0, .int .i64 0, .float .f64 0]), 4, 32) := by kernel_rfl
theorem oneC (l : List Cg) : ∀ u ∈ l.flatMap cgC, u.oneCell' = true := by
  intro u hu
  obtain ⟨x, _, h⟩ := List.mem_flatMap.1 hu
  simp [cgC] at h; rcases h with rfl | rfl | rfl | rfl <;> rfl
theorem GraphPlays_walk (A : Option Addr) (n c : Nat) (l : List Cg) (w : World) (hg : GCh w w.heap.size A n l) (hok : ∀ x ∈ l, cgOk x) (hn : n * 32 ≤ 140737488355328) (hcz : A = none → c = 0) :
    Calls Try.prog 4 #[.slice A n c] w fun e w' => e = .returned (.bool true) ∧ Below w.heap.size w w' := by
  obtain ⟨iC, hiC, hzC0, hzC1, hzC2⟩ := info_partsG infoCG
  have HC := Lib.hid hg
  have HOK := Lib.hid hok
  have hln : l.length = n := hg.1
  obtain ⟨R, hR⟩ : ∃ R, R = playA l := ⟨_, rfl⟩
  have PA := Lib.hid (fun B d w' (h : GCh w' w'.heap.size B n l) => (by have q := play_any B n d l w' h hok (by omega); rw [← hR] at q; exact q : Calls Try.prog 14 #[.slice B n d] w' (PPost R w')))
  have RA := Lib.hid (fun B d w' (h : GCh w' w'.heap.size B n l) => (by have q := rplay_any B n d l w' h hok (by omega); rw [← hR] at q; exact q : Calls Try.prog 15 #[.slice B n d] w' (PPost R w')))
  have HGD := Lib.hid (show Good R.2.2.1 R.2.2.2 by rw [hR]; exact playA_good)
  have HWT := Lib.hid (show ∀ y ∈ R.2.2.2, y.w < 18446744073709551616 by rw [hR]; exact playA_w hok)
  clear hR hg hok
  obtain ⟨E, I, NS, LS⟩ := R
  dsimp only at HGD HWT
  have hO0 := World.ownsRow_lit (e := 38) (size := 4) (base := w.heap.size) w #[] 0 (Nat.le_refl _) (by unfold maxLen; omega) rfl
  have HO0 := Lib.hid hO0
  have hA0 := (Below.refl w.heap.size w).alloc (Nat.le_refl _) (.cells #[] 38)
  have HA0 := Lib.hid hA0
  clear hO0 hA0
  cases A with
  | none =>
    obtain rfl := hcz rfl
    obtain rfl : n = 0 := by
      rcases Nat.eq_zero_or_pos n with h | h
      · exact h
      · obtain ⟨p, off, h, _⟩ := HC.out.2.2 h
        cases h
    obtain rfl : l = [] := List.eq_nil_of_length_eq_zero hln
    go_enter Try.func4, Try.ntmps4
    go_upto_region 1 with fail
    have HOX : Hid ((w.alloc (.cells #[] 38)).ownsRow w.heap.size 38 4 (.slice (some ⟨w.heap.size, 0, none⟩) 0 0) 0 (([] : List Cg).flatMap cgC)) := Lib.hid (by simpa using HO0.out)
    have HBX := HA0
    go_wp2_with (at_builtin; refine wpList_append_own_none rfl (.tmp 10) (.tmp 11) 31 rfl w.heap.size 38 iC 4 Try.underlying31 hiC (.slice (some ⟨w.heap.size, 0, none⟩) 0 0) 0 [] rfl (by simpa using HO0.out) rfl ?_)
    have hgw : w.heap.size ≤ (w.alloc (.cells #[] 38)).heap.size := HBX.out.size
    (try go_wp2_with (fail))
    refine (PA.out _ _ _ (GCh.of_own HOX.out)).mono ?_
    rintro e w4 ⟨B, p, d, B2, r, d2, rfl, o1, o2, hb⟩
    dsimp only at o1 o2 ⊢
    have HB4 := Lib.hid (HBX.out.trans (hb.mono hgw))
    have HN4 := Lib.hid (GN.of_own o1)
    have HL4 := Lib.hid (GL.of_own o2)
    have hs4 : w.heap.size ≤ w4.heap.size := HB4.out.size
    clear hb o1 o2
    have hba := (Below.refl w4.heap.size w4).alloc (Nat.le_refl _) (.cells #[.slice B p d, .slice B2 r d2] 25)
    have HT5 := Lib.hid (show GB (w4.alloc (.cells #[.slice B p d, .slice B2 r d2] 25)) w4.heap.size (.slice B p d) (.slice B2 r d2) from Go.heap_alloc_new w4 _)
    have HN5 := Lib.hid ((HN4.out.below hba).more hba.size)
    have HL5 := Lib.hid ((HL4.out.below hba).more hba.size)
    have HB5 := Lib.hid (HB4.out.trans (hba.mono hs4))
    clear hba
    go_wp2_with (fail)
    generalize w4.alloc (.cells #[.slice B p d, .slice B2 r d2] 25) = w5 at *
    generalize w4.heap.size = t4 at *
    have hs5 : w.heap.size ≤ w5.heap.size := HB5.out.size
    refine (RA.out _ _ _ ((HC.out.below HB5.out).more hs5)).mono ?_
    rintro e w6 ⟨C, p2, f, C2, r2, f2, rfl, o1, o2, hb⟩
    dsimp only at o1 o2 ⊢
    have HB6 := Lib.hid (HB5.out.trans (hb.mono hs5))
    have HT6 := Lib.hid (HT5.out.below hb HT5.out.lt)
    have HN6 := Lib.hid ((HN5.out.below hb).more hb.size)
    have HL6 := Lib.hid ((HL5.out.below hb).more hb.size)
    have HM6 := Lib.hid (GN.of_own o1)
    have HK6 := Lib.hid (GL.of_own o2)
    have hs6 : w.heap.size ≤ w6.heap.size := HB6.out.size
    clear hb o1 o2
    have hba := (Below.refl w6.heap.size w6).alloc (Nat.le_refl _) (.cells #[.slice C p2 f, .slice C2 r2 f2] 25)
    have HU7 := Lib.hid (show GB (w6.alloc (.cells #[.slice C p2 f, .slice C2 r2 f2] 25)) w6.heap.size (.slice C p2 f) (.slice C2 r2 f2) from Go.heap_alloc_new w6 _)
    have HT7 := Lib.hid (HT6.out.below hba HT6.out.lt)
    have HN7 := Lib.hid ((HN6.out.below hba).more hba.size)
    have HL7 := Lib.hid ((HL6.out.below hba).more hba.size)
    have HM7 := Lib.hid ((HM6.out.below hba).more hba.size)
    have HK7 := Lib.hid ((HK6.out.below hba).more hba.size)
    have HB7 := Lib.hid (HB6.out.trans (hba.mono hs6))
    clear hba
    have hq : p = p2 := by rw [← HN6.out.1, ← HM6.out.1]
    have hr : r = r2 := by rw [← HL6.out.1, ← HK6.out.1]
    subst hq
    subst hr
    have hp256 : p ≤ 256 := by have := HN6.out.1; have := HGD.out.n; omega
    have hr4096 : r ≤ 4096 := by have := HL6.out.1; have := HGD.out.l; omega
    have r0 := HT7.out.c0.1
    have r1 := HT7.out.c1.1
    have u0 := HU7.out.c0.1
    have u1 := HU7.out.c1.1
    have hEE : (E == E) = true := by simp
    have hII : ((I : Int) == (I : Int)) = true := by simp
    go_wp2_with (fail)
    generalize w6.alloc (.cells #[.slice C p f, .slice C2 r f2] 25) = w7 at *
    generalize w6.heap.size = t6 at *
    have hs7 : w.heap.size ≤ w7.heap.size := HB7.out.size
    refine (same_eq B B2 C C2 p d r d2 f f2 NS LS _ HN7.out HL7.out HM7.out HK7.out (by omega) (by omega)).mono ?_
    rintro e w8 ⟨rfl, hb⟩
    have HB8 := Lib.hid (HB7.out.trans (hb.mono hs7))
    have HN8 := Lib.hid ((HN7.out.below hb).more hb.size)
    have HL8 := Lib.hid ((HL7.out.below hb).more hb.size)
    have HT8 := Lib.hid (HT7.out.below hb HT7.out.lt)
    have hs8 : w.heap.size ≤ w8.heap.size := HB8.out.size
    clear hb r0 r1 u0 u1
    have r0 := HT8.out.c0.1
    have r1 := HT8.out.c1.1
    go_wp2_with (fail)
    refine (check_any B B2 p d r d2 NS LS _ HN8.out HL8.out (fun j hj => by have h1 := HL8.out.1; rw [lkA_get (by omega)]; exact HWT.out _ (List.getElem_mem _)) (by omega) (by omega)).mono ?_
    rw [HGD.out.chk]
    rintro e w9 ⟨rfl, hb⟩
    have HB9 := Lib.hid (HB8.out.trans (hb.mono hs8))
    clear hb
    go_wp2_with (fail)
    refine (awake_any _).mono ?_
    rintro e w10 ⟨rfl, hb⟩
    go_wp2_with (fail)
    go_ret
    exact ⟨rfl, HB9.out.trans (hb.mono HB9.out.size)⟩
  | some q =>
    have hsrc : ∀ j u, (l.flatMap cgC)[j]? = some u → w.cell? (q.add j) = some u := fun j u hu => by
      have hpos : 0 < n := by
        rcases Nat.eq_zero_or_pos n with h | h
        · subst h; rw [List.eq_nil_of_length_eq_zero hln] at hu; simp at hu
        · exact h
      obtain ⟨p, off, e, _, hc⟩ := HC.out.2.2 hpos
      injection e with e
      subst e
      rw [addAt]
      exact hc j u hu
    have HQ := Lib.hid hsrc
    clear hsrc
    go_enter Try.func4, Try.ntmps4
    go_upto_region 1 with fail
    go_wp2_with (at_builtin; refine wpList_append_own _ rfl (.tmp 10) (.tmp 11) 31 rfl w.heap.size 38 iC (.agg #[.int .i64 0, .int .i64 0, .int .i64 0, .float .f64 0]) 4 32 Try.underlying31 hiC hzC0 hzC1 hzC2 rfl (by decide) (.slice (some ⟨w.heap.size, 0, none⟩) 0 0) 0 [] rfl (by simpa using HO0.out) q n c (l.flatMap cgC) rfl (by rw [flat_len cgC 4 (fun _ => rfl), hln]) (fun j u hu => by exact alloc_keep (HQ.out j u hu) _) (oneC l) (by unfold maxLen; omega) (by omega) (by simp) ?_; intro v1 w3 hown1 hgrow1 _; obtain ⟨A1, c1, rfl⟩ := own_form hown1; have HOX : Hid (w3.ownsRow w.heap.size 38 4 (.slice A1 n c1) n (l.flatMap cgC)) := Lib.hid (by simpa using hown1); have HBX : Hid (Below w.heap.size w w3) := Lib.hid (HA0.out.grown hgrow1 (Nat.le_of_lt (by simp)) (by intro k hk; simp [Value.ownBlock] at hk; omega)); clear hown1 hgrow1)
    have hgw : w.heap.size ≤ w3.heap.size := HBX.out.size
    (try go_wp2_with (fail))
    refine (PA.out _ _ _ (GCh.of_own HOX.out)).mono ?_
    rintro e w4 ⟨B, p, d, B2, r, d2, rfl, o1, o2, hb⟩
    dsimp only at o1 o2 ⊢
    have HB4 := Lib.hid (HBX.out.trans (hb.mono hgw))
    have HN4 := Lib.hid (GN.of_own o1)
    have HL4 := Lib.hid (GL.of_own o2)
    have hs4 : w.heap.size ≤ w4.heap.size := HB4.out.size
    clear hb o1 o2
    have hba := (Below.refl w4.heap.size w4).alloc (Nat.le_refl _) (.cells #[.slice B p d, .slice B2 r d2] 25)
    have HT5 := Lib.hid (show GB (w4.alloc (.cells #[.slice B p d, .slice B2 r d2] 25)) w4.heap.size (.slice B p d) (.slice B2 r d2) from Go.heap_alloc_new w4 _)
    have HN5 := Lib.hid ((HN4.out.below hba).more hba.size)
    have HL5 := Lib.hid ((HL4.out.below hba).more hba.size)
    have HB5 := Lib.hid (HB4.out.trans (hba.mono hs4))
    clear hba
    go_wp2_with (fail)
    generalize w4.alloc (.cells #[.slice B p d, .slice B2 r d2] 25) = w5 at *
    generalize w4.heap.size = t4 at *
    have hs5 : w.heap.size ≤ w5.heap.size := HB5.out.size
    refine (RA.out _ _ _ ((HC.out.below HB5.out).more hs5)).mono ?_
    rintro e w6 ⟨C, p2, f, C2, r2, f2, rfl, o1, o2, hb⟩
    dsimp only at o1 o2 ⊢
    have HB6 := Lib.hid (HB5.out.trans (hb.mono hs5))
    have HT6 := Lib.hid (HT5.out.below hb HT5.out.lt)
    have HN6 := Lib.hid ((HN5.out.below hb).more hb.size)
    have HL6 := Lib.hid ((HL5.out.below hb).more hb.size)
    have HM6 := Lib.hid (GN.of_own o1)
    have HK6 := Lib.hid (GL.of_own o2)
    have hs6 : w.heap.size ≤ w6.heap.size := HB6.out.size
    clear hb o1 o2
    have hba := (Below.refl w6.heap.size w6).alloc (Nat.le_refl _) (.cells #[.slice C p2 f, .slice C2 r2 f2] 25)
    have HU7 := Lib.hid (show GB (w6.alloc (.cells #[.slice C p2 f, .slice C2 r2 f2] 25)) w6.heap.size (.slice C p2 f) (.slice C2 r2 f2) from Go.heap_alloc_new w6 _)
    have HT7 := Lib.hid (HT6.out.below hba HT6.out.lt)
    have HN7 := Lib.hid ((HN6.out.below hba).more hba.size)
    have HL7 := Lib.hid ((HL6.out.below hba).more hba.size)
    have HM7 := Lib.hid ((HM6.out.below hba).more hba.size)
    have HK7 := Lib.hid ((HK6.out.below hba).more hba.size)
    have HB7 := Lib.hid (HB6.out.trans (hba.mono hs6))
    clear hba
    have hq : p = p2 := by rw [← HN6.out.1, ← HM6.out.1]
    have hr : r = r2 := by rw [← HL6.out.1, ← HK6.out.1]
    subst hq
    subst hr
    have hp256 : p ≤ 256 := by have := HN6.out.1; have := HGD.out.n; omega
    have hr4096 : r ≤ 4096 := by have := HL6.out.1; have := HGD.out.l; omega
    have r0 := HT7.out.c0.1
    have r1 := HT7.out.c1.1
    have u0 := HU7.out.c0.1
    have u1 := HU7.out.c1.1
    have hEE : (E == E) = true := by simp
    have hII : ((I : Int) == (I : Int)) = true := by simp
    go_wp2_with (fail)
    generalize w6.alloc (.cells #[.slice C p f, .slice C2 r f2] 25) = w7 at *
    generalize w6.heap.size = t6 at *
    have hs7 : w.heap.size ≤ w7.heap.size := HB7.out.size
    refine (same_eq B B2 C C2 p d r d2 f f2 NS LS _ HN7.out HL7.out HM7.out HK7.out (by omega) (by omega)).mono ?_
    rintro e w8 ⟨rfl, hb⟩
    have HB8 := Lib.hid (HB7.out.trans (hb.mono hs7))
    have HN8 := Lib.hid ((HN7.out.below hb).more hb.size)
    have HL8 := Lib.hid ((HL7.out.below hb).more hb.size)
    have HT8 := Lib.hid (HT7.out.below hb HT7.out.lt)
    have hs8 : w.heap.size ≤ w8.heap.size := HB8.out.size
    clear hb r0 r1 u0 u1
    have r0 := HT8.out.c0.1
    have r1 := HT8.out.c1.1
    go_wp2_with (fail)
    refine (check_any B B2 p d r d2 NS LS _ HN8.out HL8.out (fun j hj => by have h1 := HL8.out.1; rw [lkA_get (by omega)]; exact HWT.out _ (List.getElem_mem _)) (by omega) (by omega)).mono ?_
    rw [HGD.out.chk]
    rintro e w9 ⟨rfl, hb⟩
    have HB9 := Lib.hid (HB8.out.trans (hb.mono hs8))
    clear hb
    go_wp2_with (fail)
    refine (awake_any _).mono ?_
    rintro e w10 ⟨rfl, hb⟩
    go_wp2_with (fail)
    go_ret
    exact ⟨rfl, HB9.out.trans (hb.mono HB9.out.size)⟩

end Go.Proofs.Ytgmljlgoaifneaa
