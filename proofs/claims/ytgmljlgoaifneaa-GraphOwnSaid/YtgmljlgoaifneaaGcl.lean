/- The walks of slices.Clone at routers and links, of graph.own. Conditions: as each theorem's hypotheses say. -/
import Derived.Test.YtgmljlgoaifneaaGcp
import Derived.Deep.RegionLaw
import Derived.Laws.Cover3
namespace Go.Proofs.Ytgmljlgoaifneaa
open Go.RowKit Flt Go.Mem Go.Lib
set_option linter.unusedVariables false

attribute [local go_sem] run_store_float
set_option maxHeartbeats 1600000
set_option maxRecDepth 100000
theorem eql_nil (w : World) (t e : TypeId) (a : Option Addr) (l c : Nat) (h : Try.prog.underlying t = some (.slice e)) : (binOp .eql t (.slice a l c) (.slice none 0 0)).run Try.prog w = .ok (.bool a.isNone) w := by
  simp [binOp, run_equal_slice_nil w t e a l c h, Result.andThen]
theorem oneKsN (l : List Nd) : ∀ u ∈ l.flatMap ndC, u.oneCell' = true := by
  intro u hu
  obtain ⟨x, _, h⟩ := List.mem_flatMap.1 hu
  exact oneN x u h
theorem block_keep_N (w : World) (n : Nat) (l : List Nd) : ∀ (q : Addr) (j : Nat) (u : Value) (o : Obj), w.cell? (q.add j) = some u → (w.alloc o).cell? (q.add j) = some u := fun q j u o h => alloc_keep h o
theorem cloneN_any (A : Option Addr) (n c : Nat) (l : List Nd) (w : World) (hg : GN w w.heap.size A n l) (hn : n * 16 ≤ 140737488355328) :
    Calls Try.prog 52 #[.slice A n c] w fun e w' => ∃ A' c', e = .returned (.slice A' n c') ∧ w'.ownsRow w.heap.size 52 3 (.slice A' n c') n (l.flatMap ndC) ∧ Below w.heap.size w w' := by
  obtain ⟨iN, hiN, hzN0, hzN1, hzN2⟩ := info_partsG infoND
  have HG := Lib.hid hg
  have hlen : l.length = n := hg.1
  clear hg
  cases A with
  | none =>
    obtain rfl : n = 0 := by
      rcases Nat.eq_zero_or_pos n with h | h
      · exact h
      · obtain ⟨b, off, h, _⟩ := HG.out.at h
        cases h
    obtain rfl : l = [] := List.eq_nil_of_length_eq_zero hlen
    have heq := eql_nil w 22 52 none 0 c Try.underlying22
    simp only [Option.isNone_none] at heq
    go_enter Try.func52, Try.ntmps52
    go_wp2_with (fail)
    go_ret
    exact ⟨none, 0, rfl, World.ownsRow_nil _ _ _ _, Below.refl _ _⟩
  | some p =>
    obtain ⟨q, hq⟩ : ∃ q : Addr, (0 < n → q = p) ∧ (∀ j u, (l.flatMap ndC)[j]? = some u → w.cell? (q.add j) = some u) ∧ q = p := by
      rcases Nat.eq_zero_or_pos n with h | h
      · refine ⟨p, fun h' => by omega, fun j u hu => ?_, rfl⟩
        subst h
        rw [List.eq_nil_of_length_eq_zero hlen] at hu
        simp at hu
      · obtain ⟨b, off, e, hb, hc⟩ := HG.out.2.2 h
        injection e with e
        subst e
        exact ⟨⟨b, off, none⟩, fun _ => rfl, fun j u hu => by rw [addAt]; exact hc j u hu, rfl⟩
    obtain ⟨_, hsrc, rfl⟩ := hq
    have HS := Lib.hid hsrc
    have HB := Lib.hid (block_keep_N w n l)
    clear hsrc
    go_enter Try.func52, Try.ntmps52
    have heq := eql_nil w 22 52 (some q) n c Try.underlying22
    simp only [Option.isNone_some] at heq
    have hO0 := World.ownsRow_lit (e := 52) (size := 3) (base := w.heap.size) w #[] 0 (Nat.le_refl _) (by unfold maxLen; omega) rfl
    have HO0 := Lib.hid hO0
    have hA0 := (Below.refl w.heap.size w).alloc (Nat.le_refl _) (.cells #[] 52)
    have HA0 := Lib.hid hA0
    clear hO0 hA0
    go_wp2_with (at_builtin; refine wpList_append_own _ rfl (.tmp 5) (.tmp 6) _ rfl w.heap.size 52 iN (.agg #[.int .i64 0, .bool false, .bool false]) 3 16 Try.underlying22 hiN hzN0 hzN1 hzN2 rfl (by decide) (.slice (some ⟨w.heap.size, 0, none⟩) 0 0) 0 [] rfl (by simpa using HO0.out) q n c (l.flatMap ndC) rfl (by rw [flat_len ndC 3 (fun _ => rfl), hlen]) (fun j u hu => by exact HB.out _ _ _ _ (HS.out j u hu)) (oneKsN l) (by unfold maxLen; omega) (by omega) (by simp) ?_; intro v1 w1 hown1 hgrow1 _)
    all_goals
      obtain ⟨A1, c1, rfl⟩ := own_form hown1
      have HO := Lib.hid hown1
      have HBB := Lib.hid hgrow1
      clear hown1 hgrow1
      go_wp2_with (fail)
      go_ret
      exact ⟨A1, c1, by simp, by simpa using HO.out, (HA0.out.grown HBB.out (Nat.le_of_lt (by simp)) (by intro k hk; simp [Value.ownBlock] at hk; omega))⟩
theorem oneKsL (l : List Lk) : ∀ u ∈ l.flatMap lkC, u.oneCell' = true := by
  intro u hu
  obtain ⟨x, _, h⟩ := List.mem_flatMap.1 hu
  exact oneL x u h
theorem block_keep_L (w : World) (n : Nat) (l : List Lk) : ∀ (q : Addr) (j : Nat) (u : Value) (o : Obj), w.cell? (q.add j) = some u → (w.alloc o).cell? (q.add j) = some u := fun q j u o h => alloc_keep h o
theorem cloneL_any (A : Option Addr) (n c : Nat) (l : List Lk) (w : World) (hg : GL w w.heap.size A n l) (hn : n * 32 ≤ 140737488355328) :
    Calls Try.prog 53 #[.slice A n c] w fun e w' => ∃ A' c', e = .returned (.slice A' n c') ∧ w'.ownsRow w.heap.size 54 4 (.slice A' n c') n (l.flatMap lkC) ∧ Below w.heap.size w w' := by
  obtain ⟨iN, hiN, hzN0, hzN1, hzN2⟩ := info_partsG infoLK
  have HG := Lib.hid hg
  have hlen : l.length = n := hg.1
  clear hg
  cases A with
  | none =>
    obtain rfl : n = 0 := by
      rcases Nat.eq_zero_or_pos n with h | h
      · exact h
      · obtain ⟨b, off, h, _⟩ := HG.out.at h
        cases h
    obtain rfl : l = [] := List.eq_nil_of_length_eq_zero hlen
    have heq := eql_nil w 23 54 none 0 c Try.underlying23
    simp only [Option.isNone_none] at heq
    go_enter Try.func53, Try.ntmps53
    go_wp2_with (fail)
    go_ret
    exact ⟨none, 0, rfl, World.ownsRow_nil _ _ _ _, Below.refl _ _⟩
  | some p =>
    obtain ⟨q, hq⟩ : ∃ q : Addr, (0 < n → q = p) ∧ (∀ j u, (l.flatMap lkC)[j]? = some u → w.cell? (q.add j) = some u) ∧ q = p := by
      rcases Nat.eq_zero_or_pos n with h | h
      · refine ⟨p, fun h' => by omega, fun j u hu => ?_, rfl⟩
        subst h
        rw [List.eq_nil_of_length_eq_zero hlen] at hu
        simp at hu
      · obtain ⟨b, off, e, hb, hc⟩ := HG.out.2.2 h
        injection e with e
        subst e
        exact ⟨⟨b, off, none⟩, fun _ => rfl, fun j u hu => by rw [addAt]; exact hc j u hu, rfl⟩
    obtain ⟨_, hsrc, rfl⟩ := hq
    have HS := Lib.hid hsrc
    have HB := Lib.hid (block_keep_L w n l)
    clear hsrc
    go_enter Try.func53, Try.ntmps53
    have heq := eql_nil w 23 54 (some q) n c Try.underlying23
    simp only [Option.isNone_some] at heq
    have hO0 := World.ownsRow_lit (e := 54) (size := 4) (base := w.heap.size) w #[] 0 (Nat.le_refl _) (by unfold maxLen; omega) rfl
    have HO0 := Lib.hid hO0
    have hA0 := (Below.refl w.heap.size w).alloc (Nat.le_refl _) (.cells #[] 54)
    have HA0 := Lib.hid hA0
    clear hO0 hA0
    go_wp2_with (at_builtin; refine wpList_append_own _ rfl (.tmp 5) (.tmp 6) _ rfl w.heap.size 54 iN (.agg #[.int .i64 0, .int .i64 0, .float .f64 0, .bool false]) 4 32 Try.underlying23 hiN hzN0 hzN1 hzN2 rfl (by decide) (.slice (some ⟨w.heap.size, 0, none⟩) 0 0) 0 [] rfl (by simpa using HO0.out) q n c (l.flatMap lkC) rfl (by rw [flat_len lkC 4 (fun _ => rfl), hlen]) (fun j u hu => by exact HB.out _ _ _ _ (HS.out j u hu)) (oneKsL l) (by unfold maxLen; omega) (by omega) (by simp) ?_; intro v1 w1 hown1 hgrow1 _)
    all_goals
      obtain ⟨A1, c1, rfl⟩ := own_form hown1
      have HO := Lib.hid hown1
      have HBB := Lib.hid hgrow1
      clear hown1 hgrow1
      go_wp2_with (fail)
      go_ret
      exact ⟨A1, c1, by simp, by simpa using HO.out, (HA0.out.grown HBB.out (Nat.le_of_lt (by simp)) (by intro k hk; simp [Value.ownBlock] at hk; omega))⟩
theorem own_any (A A2 : Option Addr) (n c m c2 : Nat) (ns : List Nd) (ls : List Lk) (w : World) (hg : GN w w.heap.size A n ns) (hl : GL w w.heap.size A2 m ls) (hn : n * 16 ≤ 140737488355328) (hm : m * 32 ≤ 140737488355328) :
    Calls Try.prog 35 #[.agg #[.slice A n c, .slice A2 m c2]] w fun e w' => ∃ B d B2 d2, e = .returned (.agg #[.slice B n d, .slice B2 m d2]) ∧ w'.ownsRow w.heap.size 52 3 (.slice B n d) n (ns.flatMap ndC) ∧ w'.ownsRow w.heap.size 54 4 (.slice B2 m d2) m (ls.flatMap lkC) ∧ Below w.heap.size w w' := by
  have HN := Lib.hid hg
  have HL := Lib.hid hl
  clear hg hl
  go_enter Try.func35, Try.ntmps35
  go_wp2_with (fail)
  have hX0 := Go.heap_alloc_new w (.cells #[.slice A n c, .slice A2 m c2] 25)
  have hX1 := Go.heap_alloc_new (w.alloc (.cells #[.slice A n c, .slice A2 m c2] 25)) (.cells #[.slice none 0 0, .slice none 0 0] 25)
  have hB1 := ((Below.refl w.heap.size w).alloc (Nat.le_refl _) (.cells #[.slice A n c, .slice A2 m c2] 25)).alloc (by simp) (.cells #[.slice none 0 0, .slice none 0 0] 25)
  have hG0 : GB ((w.alloc (.cells #[.slice A n c, .slice A2 m c2] 25)).alloc (.cells #[.slice none 0 0, .slice none 0 0] 25)) w.heap.size (.slice A n c) (.slice A2 m c2) := by
    unfold GB; rw [Go.heap_alloc_old _ _ (by simp)]; exact hX0
  have hG1 : GB ((w.alloc (.cells #[.slice A n c, .slice A2 m c2] 25)).alloc (.cells #[.slice none 0 0, .slice none 0 0] 25)) (w.heap.size + 1) (.slice none 0 0) (.slice none 0 0) := by
    rw [show (w.alloc (.cells #[.slice A n c, .slice A2 m c2] 25)).heap.size = w.heap.size + 1 by simp] at hX1; exact hX1
  clear hX0 hX1
  generalize (w.alloc (.cells #[.slice A n c, .slice A2 m c2] 25)).alloc (.cells #[.slice none 0 0, .slice none 0 0] 25) = w1 at *
  have HB1 := Lib.hid hB1
  generalize hg1 : w.heap.size + 1 = g1 at *
  generalize hg0 : w.heap.size = g0 at *
  have HGG := Lib.hid (show g1 = g0 + 1 from by omega)
  have HGE := Lib.hid hg0
  have HG0 := Lib.hid hG0
  have HG1 := Lib.hid hG1
  have hz : g0 ≤ w1.heap.size := by have := hB1.size; omega
  have HNA := Lib.hid (fun w' (h : Below w1.heap.size w1 w') => (by subst hg0; exact (HN.out.below (hB1.trans (h.mono hB1.size))).more (Nat.le_trans hB1.size h.size) : GN w' w'.heap.size A n ns))
  have HLA := Lib.hid (fun w' (h : Below w1.heap.size w1 w') => (by subst hg0; exact (HL.out.below (hB1.trans (h.mono hB1.size))).more (Nat.le_trans hB1.size h.size) : GL w' w'.heap.size A2 m ls))
  have e0 := hG0.c0.1
  have e1 := hG0.c1.1
  have hBd := (Below.refl w1.heap.size w1).drew
  clear hg1 hg0 hG0 hG1 hB1
  have HZ := Lib.hid hz
  have HE0 := Lib.hid e0
  have HE1 := Lib.hid e1
  clear hz
  go_region_law (first
    | (go_simp; go_at_call 52; refine (cloneN_any A n c ns _ (by first | exact HNA.out _ hBd | exact HNA.out _ HBL.out) hn).mono ?_; rintro e wn ⟨B, d, rfl, on, hbn⟩; have HBN : Hid (Below w1.heap.size w1 wn) := (by first | exact Lib.hid (HBL.out.trans (hbn.mono HBL.out.size)) | exact Lib.hid (hBd.trans (hbn.mono hBd.size))); have HON : Hid (wn.ownsRow w1.heap.size 52 3 (.slice B n d) n (ns.flatMap ndC)) := (by first | exact Lib.hid (own_mono on HBL.out.size) | exact Lib.hid on); (try (have HOL2 := Lib.hid (own_below HOL.out hbn))); have z0 := (HG1.out.below HBN.out HG1.out.lt).c0; have z1 := (HG1.out.below HBN.out HG1.out.lt).c1; have y1 := keep_cellG HE1.out HBN.out; have HF := HBN; clear on hbn)
    | (go_simp; go_at_call 53; refine (cloneL_any A2 m c2 ls _ (by first | exact HLA.out _ hBd | exact HLA.out _ HBN.out) hm).mono ?_; rintro e wl ⟨B2, d2, rfl, ol, hbl⟩; have HBL : Hid (Below w1.heap.size w1 wl) := (by first | exact Lib.hid (HBN.out.trans (hbl.mono HBN.out.size)) | exact Lib.hid (hBd.trans (hbl.mono hBd.size))); have HOL : Hid (wl.ownsRow w1.heap.size 54 4 (.slice B2 m d2) m (ls.flatMap lkC)) := (by first | exact Lib.hid (own_mono ol HBN.out.size) | exact Lib.hid ol); (try (have HON2 := Lib.hid (own_below HON.out hbl))); have z0 := (HG1.out.below HBL.out HG1.out.lt).c0; have z1 := (HG1.out.below HBL.out HG1.out.lt).c1; have y0 := keep_cellG HE0.out HBL.out; have HF := HBL; clear ol hbl))
  all_goals
    go_wp2_with (fail)
    refine bodyPost_ret (ret_graph (u := .slice B n d) (v := .slice B2 m d2) rfl _ _ g1 rfl (by first | exact ((HG1.out.below HBN.out HG1.out.lt).s0 (.slice B n d)).s1 (.slice B2 m d2) | exact ((HG1.out.below HBL.out HG1.out.lt).s0 (.slice B n d)).s1 (.slice B2 m d2))) rfl ?_
    have hge := HGE.out
    subst hge
    have hgg := HGG.out
    first
      | exact ⟨B, d, B2, d2, rfl, own_mono (own_set (own_set HON2.out HG1.out.lt) HG1.out.lt) HZ.out, own_mono (own_set (own_set HOL.out HG1.out.lt) HG1.out.lt) HZ.out, ((HB1.out.trans (HBL.out.mono HZ.out)).setCell (p := ⟨g1, 0, none⟩) (by show _ ≤ g1; omega) _).setCell (p := ⟨g1, 1, none⟩) (by show _ ≤ g1; omega) _⟩
      | exact ⟨B, d, B2, d2, rfl, own_mono (own_set (own_set HON.out HG1.out.lt) HG1.out.lt) HZ.out, own_mono (own_set (own_set HOL2.out HG1.out.lt) HG1.out.lt) HZ.out, ((HB1.out.trans (HBN.out.mono HZ.out)).setCell (p := ⟨g1, 0, none⟩) (by show _ ≤ g1; omega) _).setCell (p := ⟨g1, 1, none⟩) (by show _ ≤ g1; omega) _⟩

end Go.Proofs.Ytgmljlgoaifneaa
