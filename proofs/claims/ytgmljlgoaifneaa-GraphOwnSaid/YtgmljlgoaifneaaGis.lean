/- slices.Insert anywhere in a row, at routers and at links. Conditions: as each theorem's hypotheses say. -/
import Derived.Test.YtgmljlgoaifneaaGin
import Derived.Test.YtgmljlgoaifneaaGad
import Derived.Test.YtgmljlgoaifneaaGic
import Derived.Lib.AppendZeros
namespace Go.Proofs.Ytgmljlgoaifneaa
open Go.RowKit Flt Go.Mem Go.Lib
set_option linter.unusedVariables false

set_option maxHeartbeats 3200000
set_option maxRecDepth 100000
theorem shape_row {w : World} {g : Nat} {cs : Array Value} {t : TypeId} (h : w.heap[g]? = some (.cells cs t (0, 0))) : w.shape? g = some (t, cs.size) := by unfold World.shape?; rw [h]
theorem lt_of_heap2 {w : World} {b : Nat} {o : Obj} (h : w.heap[b]? = some o) : b < w.heap.size := by
  rcases Nat.lt_or_ge b w.heap.size with hlt | hge
  · exact hlt
  · rw [Array.getElem?_eq_none hge] at h; cases h
theorem arr3 (l : List Value) (Z1 Z2 : Array Value) : l.toArray ++ Z1 ++ Z2 = (l ++ Z1.toList ++ Z2.toList).toArray := by apply Array.ext'; simp
theorem idx_drop {xs cur : List Value} {w : World} {g c p q : Nat} {t : TypeId} (h : w.heap[g]? = some (.cells cur.toArray t (0, 0))) (hp : cur.take q = xs) : ∀ j v, (xs.drop p)[j]? = some v → w.cell? ((⟨g, p, none⟩ : Addr).add j) = some v := fun j v hv => by
  rw [addAt, Go.cell_of_row w g (p + j) _ _ _ h]
  rw [List.getElem?_drop, ← hp, List.getElem?_take] at hv
  split at hv
  · simpa using hv
  · cases hv
theorem size_N : (Try.prog.info? 52).map (fun i => i.size) = some 3 := by kernel_rfl
theorem over_N (w : World) (g off kc g2 off2 lb cb : Nat) (hne : g ≠ g2) (cs cs2 : Array Value) (t t2 : TypeId) (h1 : w.heap[g]? = some (.cells cs t (0, 0))) (h2 : w.heap[g2]? = some (.cells cs2 t2 (0, 0))) (h0 : cs2.size ≠ 0) :
    (callFunc 100 #[.slice (some ⟨g, 0, none⟩) 1 kc, .slice (some ⟨g2, off2, none⟩) lb cb]).run Try.prog w = .ok (.value (.bool false)) w := by
  rw [run_callFunc_extern (P := Try.prog) Try.func100 (by kernel_rfl) (by kernel_rfl) (by kernel_rfl) (e := Extern.SlicesOverlaps.overlaps #[22, 22] #[4]) (by kernel_rfl),
    Lib.run_overlaps_apart w 22 4 52 Try.underlying22 3 (fun w => by rw [show sizeOf 52 = _ from rfl]; simp [sizeOf, typeInfo]; rfl) ⟨g, 0, none⟩ ⟨g2, off2, none⟩ 1 kc lb cb hne t t2 cs.size cs2.size (shape_row h1) (shape_row h2) h0 (Go.frozen_of_row w g _ _ _ h1) (Go.frozen_of_row w g _ _ _ h1)]
  rfl
theorem ins_mid_N (n c base g k i g2 : Nat) (xs cs : List Value) (w : World) (hown : w.ownsRow base 52 3 (.slice (some ⟨g2, 0, none⟩) n c) n xs) (hl : cs.length = 3) (t : TypeId) (hx : w.heap[g]? = some (.cells cs.toArray t (0, 0))) (h1 : ∀ u ∈ cs, u.oneCell' = true) (h1x : ∀ u ∈ xs, u.oneCell' = true) (hne : g ≠ g2) (hi : i < n) (hroom : n + 1 ≤ c) :
    Calls Try.prog 87 #[.slice (some ⟨g2, 0, none⟩) n c, .int .i64 i, .slice (some ⟨g, 0, none⟩) 1 k] w fun e w' => ∃ A' c', e = .returned (.slice A' (n + 1) c') ∧ w'.ownsRow base 52 3 (.slice A' (n + 1) c') (n + 1) (xs.take (i * 3) ++ cs ++ xs.drop (i * 3)) ∧ w.grownBy w' (some g2) := by
  obtain ⟨hxl, hcase⟩ := hown
  rcases hcase with ⟨h, _⟩ | ⟨g3, cap, cur, he, hbg, hcur, hnc, hcm, hcs, htk⟩
  · cases h
  injection he with e1 e2 e3
  injection e1 with e1
  injection e1 with e1 e4 e5
  subst e1
  subst e3
  obtain ⟨L, rfl⟩ : ∃ L : List Value, L.toArray = cur := ⟨cur.toList, by simp⟩
  have hov := fun lb cb off2 => over_N w g 0 k g2 off2 lb cb hne cs.toArray L.toArray t _ hx hcur (by rw [hcs]; omega)
  have hcm2 : c ≤ 9223372036854775807 := hcm
  have hw1 : IntKind.i64.wrap ((i : Int) + 1) = (i : Int) + 1 := by rw [IntKind.wrap_i64]; omega
  have hw2 : IntKind.i64.wrap ((n : Int) + 1) = (n : Int) + 1 := by rw [IntKind.wrap_i64]; omega
  have hz2 : ¬ ((i : Int) = (n : Int)) := by omega
  have hb1 : ¬ ((c : Int) < (n : Int) + 1) := by omega
  have hb2 : ¬ (c = i + 1) := by omega
  have hb4 : ¬ (c = i) := by omega
  have hin : i ≤ n := by omega
  have hb3 : (i : Int) + 1 ≤ (n : Int) + 1 := by omega
  have hb5 : (0 : Int) ≤ (i : Int) + 1 := by omega
  have hb6 : (i : Int) ≤ (n : Int) + 1 := by omega
  have htn : ((i : Int) + 1).toNat = i + 1 := by omega
  have htm : ((n : Int) + 1).toNat = n + 1 := by omega
  have HX := Lib.hid hx
  have HC := Lib.hid hcur
  have HTK := Lib.hid htk
  have HXL := Lib.hid hxl
  have HCS := Lib.hid hcs
  simp at htk hcs
  have HLL := Lib.hid hcs
  have HLT := Lib.hid htk
  clear hx hcur htk hxl hcs hcm
  go_enter Try.func87, Try.ntmps87
  go_wp2_with (simp only [hov])
  go_region_law (refine step_copy_K rfl (.tmp 73) (.tmp 76) 22 22 rfl 52 3 Try.underlying22 size_N g2 ((i + 1) * 3) (n - i) (c - (i + 1)) ⟨g2, i * 3, none⟩ (n + 1 - i) (c - i) (by simp [Act.eval, Act.put]) (by simp [Act.eval, Act.put]) L 52 (show (w.drew).heap[g2]? = _ from HC.out) (xs.drop (i * 3)) (n - i) (by simp only [Nat.min_def]; split <;> omega) (by rw [List.length_drop, HXL.out, Nat.sub_mul]) (idx_drop (c := 0) (show (w.drew).heap[g2]? = _ from HC.out) HLT.out) (by rw [List.length_drop, HXL.out, HLL.out]; have := Nat.mul_le_mul_right 3 hroom; have := Nat.mul_le_mul_right 3 hin; have := Nat.succ_mul i 3; have := Nat.succ_mul n 3; omega) (fun u hu => h1x u (List.mem_of_mem_drop hu)) ?_; intro w1 HR1 HG1)
  have HG1' := Lib.hid (show w.grownBy w1 (some g2) from ⟨HG1.out.os, HG1.out.tape, HG1.out.output, HG1.out.size, HG1.out.block⟩)
  have HXw := Lib.hid ((HG1'.out.block g (by rcases Nat.lt_or_ge g w.heap.size with h | h; exact h; have := HX.out; rw [Array.getElem?_eq_none h] at this; cases this) (by simp; exact hne)).trans HX.out)
  have q1 : Nat.min 1 (n + 1 - i) = 1 := by simp only [Nat.min_def]; split <;> omega
  have q2 : cs.length = 1 * 3 := by rw [hl]
  have q3 : ∀ j u, cs[j]? = some u → w1.cell? ((⟨g, 0, none⟩ : Addr).add j) = some u := fun j u hu => by rw [addAt, Nat.zero_add, Go.cell_of_row w1 g j _ _ _ HXw.out]; simpa using hu
  have q4 : i * 3 + cs.length ≤ (splice L ((i + 1) * 3) (xs.drop (i * 3))).length := by have := Nat.mul_le_mul_right 3 hroom; have := Nat.mul_le_mul_right 3 hin; have e1 := Nat.succ_mul i 3; have e2 := Nat.succ_mul n 3; rw [length_splice _ _ _ (by rw [List.length_drop, HXL.out, HLL.out]; omega), hl, HLL.out]; omega
  have Q3 := Lib.hid q3
  have Q4 := Lib.hid q4
  clear q3 q4
  go_wp2_with (refine wpList_copy_K rfl (.tmp 80) (.tmp 81) 22 22 rfl 52 3 Try.underlying22 size_N g2 (i * 3) (n + 1 - i) (c - i) ⟨g, 0, none⟩ 1 k rfl rfl (splice L ((i + 1) * 3) (xs.drop (i * 3))) 52 HR1.out cs 1 q1 q2 Q3.out Q4.out h1 ?_; intro w2 HR2 HG2)
  go_ret
  have HLEN := Lib.hid (by have := Nat.mul_le_mul_right 3 hroom; have := Nat.mul_le_mul_right 3 hin; have e1 := Nat.succ_mul i 3; have e2 := Nat.succ_mul n 3; rw [length_splice _ _ _ (by rw [length_splice _ _ _ (by rw [List.length_drop, HXL.out, HLL.out]; omega), hl, HLL.out]; omega), length_splice _ _ _ (by rw [List.length_drop, HXL.out, HLL.out]; omega)]; exact HLL.out : (splice (splice L ((i + 1) * 3) (xs.drop (i * 3))) (i * 3) cs).length = c * 3)
  refine ⟨_, _, rfl, ⟨?_, .inr ⟨g2, c, _, rfl, hbg, HR2.out, hroom, hcm2, by simpa using HLEN.out, ?_⟩⟩, grown_trans HG1'.out HG2.out⟩
  · have := Nat.mul_le_mul_right 3 hin; have e2 := Nat.succ_mul n 3; simp only [List.length_append, List.length_take, List.length_drop, HXL.out, hl]; omega
  · have := splice_in L xs cs i 3 n hl hin HXL.out (by rw [HLL.out]; exact Nat.mul_le_mul_right 3 hroom) HLT.out
    simpa using this
theorem ins_new_N (n c base g k i g2 : Nat) (xs cs : List Value) (w : World) (hown : w.ownsRow base 52 3 (.slice (some ⟨g2, 0, none⟩) n c) n xs) (hl : cs.length = 3) (t : TypeId) (hx : w.heap[g]? = some (.cells cs.toArray t (0, 0))) (h1 : ∀ u ∈ cs, u.oneCell' = true) (h1x : ∀ u ∈ xs, u.oneCell' = true) (hne : g ≠ g2) (hi : i < n) (hroom : c < n + 1) (hby : (n + 1) * 16 ≤ 140737488355328) (hb : base ≤ w.heap.size) :
    Calls Try.prog 87 #[.slice (some ⟨g2, 0, none⟩) n c, .int .i64 i, .slice (some ⟨g, 0, none⟩) 1 k] w fun e w' => ∃ A' c', e = .returned (.slice A' (n + 1) c') ∧ w'.ownsRow base 52 3 (.slice A' (n + 1) c') (n + 1) (xs.take (i * 3) ++ cs ++ xs.drop (i * 3)) ∧ w.grownBy w' (some g2) := by
  obtain ⟨hxl, hcase⟩ := hown
  rcases hcase with ⟨h, _⟩ | ⟨g3, cap, cur, he, hbg, hcur, hnc, hcm, hcs, htk⟩
  · cases h
  injection he with e1 e2 e3
  injection e1 with e1
  injection e1 with e1 e4 e5
  subst e1
  subst e3
  obtain ⟨L, rfl⟩ : ∃ L : List Value, L.toArray = cur := ⟨cur.toList, by simp⟩
  have hcm2 : c ≤ 9223372036854775807 := hcm
  obtain ⟨i0, hi0, hz0, hzs, hzb⟩ := info_partsG infoND
  have hik : i + (n + 1 - i) = n + 1 := by omega
  have h3 : (n : Int) + 1 - (i : Int) = ((n + 1 - i : Nat) : Int) := by omega
  simp at htk hcs
  have hold : (Builtin.firstCells i0.size i (.slice (some ⟨g2, 0, none⟩) i c)).run Try.prog w.drew = .ok (xs.take (i * 3)).toArray w.drew := by
    rw [hzs]
    refine run_firstCells_some w.drew 3 i ⟨g2, 0, none⟩ i c (xs.take (i * 3)) (by rw [List.length_take, hxl]; have := Nat.mul_le_mul_right 3 (Nat.le_of_lt hi); omega) (fun j v hj => ?_)
    rw [addAt, Nat.zero_add]
    rw [Go.cell_of_row w.drew g2 j _ _ _ hcur]
    rw [List.getElem?_take] at hj
    split at hj
    · rw [← htk, List.getElem?_take] at hj
      split at hj
      · simpa using hj
      · cases hj
    · cases hj
  obtain ⟨G, hG⟩ : ∃ G, G = grownCap w (n + 1) c 52 := ⟨_, rfl⟩
  obtain ⟨ROW, hROW⟩ : ∃ ROW : List Value, ROW = xs.take (i * 3) ++ (Builtin.zeroCells (.agg #[.int .i64 0, .bool false, .bool false] : Value).cells (n + 1 - i)).toList ++ (Builtin.zeroCells (.agg #[.int .i64 0, .bool false, .bool false] : Value).cells (G - (n + 1))).toList := ⟨_, rfl⟩
  have hGn : n + 1 ≤ G := by rw [hG]; exact grownCap_ge w _ _ _
  have hG63 : G ≤ maxLen := by rw [hG]; exact grownCap_le_maxLen w (n + 1) c 52 (by unfold maxLen; omega)
  have hG64 : G ≤ 9223372036854775807 := hG63
  have hrz : ∀ ty, (Builtin.append_ #[22, 3] ty #[.slice (some ⟨g2, 0, none⟩) i c, .int .i64 ((n : Int) + 1 - (i : Int))]).run Try.prog w =
      .ok (.slice (some ⟨w.heap.size, 0, none⟩) (n + 1) G) (w.drew.alloc (.cells ROW.toArray 52)) := fun ty => by
    have h := Lib.run_append_grow_zeros w 22 3 ty 52 i0 _ .i64 .i64 Try.underlying22 Try.underlying3 hi0 hz0 (some ⟨g2, 0, none⟩) i c (xs.take (i * 3)) hold (n + 1 - i) (by omega) (by omega) (by omega) (by omega) (by rw [hzb]; omega) (by rw [hzb, hik]; exact growslice_fits hroom hby)
    rw [hik, ← hG] at h
    rw [h3, h, hROW, arr3]
  have hRl : ROW.length = G * 3 := by
    rw [hROW]
    simp only [List.length_append, List.length_take, hxl, Array.length_toList, size_zeroCells]
    have e : (Value.cells (.agg #[.int .i64 0, .bool false, .bool false] : Value)).size = 3 := rfl
    rw [e]
    have := Nat.mul_le_mul_right 3 (Nat.le_of_lt hi)
    omega
  have hRt : ROW.take (i * 3) = xs.take (i * 3) := by
    rw [hROW, List.append_assoc, List.take_append_of_le_length (by rw [List.length_take, hxl]; have := Nat.mul_le_mul_right 3 (Nat.le_of_lt hi); omega), List.take_take]
    congr 1; omega
  have hg2lt := lt_of_heap2 hcur
  have hglt := lt_of_heap2 hx
  have HW1 := Lib.hid (Go.heap_alloc_new w.drew (.cells ROW.toArray 52))
  have HO2 := Lib.hid ((Go.heap_alloc_old w.drew (.cells ROW.toArray 52) hg2lt).trans hcur)
  have HOX := Lib.hid ((Go.heap_alloc_old w.drew (.cells ROW.toArray 52) hglt).trans hx)
  have HGR := Lib.hid (show w.grownBy (w.drew.alloc (.cells ROW.toArray 52)) (some g2) from ⟨rfl, rfl, rfl, Nat.le_of_lt (by simp), fun q hq _ => Go.heap_alloc_old w.drew _ hq⟩)
  have hsz : (w.drew).heap.size = w.heap.size := rfl
  rw [hsz] at HW1
  have hw1 : IntKind.i64.wrap ((i : Int) + 1) = (i : Int) + 1 := by rw [IntKind.wrap_i64]; omega
  have hw2 : IntKind.i64.wrap ((n : Int) + 1) = (n : Int) + 1 := by rw [IntKind.wrap_i64]; omega
  have hw3 : IntKind.i64.wrap ((n : Int) + 1 - (i : Int)) = (n : Int) + 1 - (i : Int) := by rw [IntKind.wrap_i64]; omega
  have hz2 : ¬ ((i : Int) = (n : Int)) := by omega
  have hb1 : (c : Int) < (n : Int) + 1 := by omega
  have hb2 : ¬ (G = i + 1) := by omega
  have hb4 : ¬ (G = i) := by omega
  have hb7 : ¬ (c = i) := by omega
  have hin : i ≤ n := by omega
  have hb3 : (i : Int) + 1 ≤ (n : Int) + 1 := by omega
  have hb5 : (0 : Int) ≤ (i : Int) + 1 := by omega
  have hb6 : (i : Int) ≤ (n : Int) + 1 := by omega
  have hb8 : (i : Int) ≤ (n : Int) := by omega
  have htn : ((i : Int) + 1).toNat = i + 1 := by omega
  have HTK := Lib.hid htk
  have HXL := Lib.hid hxl
  have HRL := Lib.hid hRl
  have HRT := Lib.hid hRt
  clear hx hcur htk hxl hcs hcm hold hROW hG hRl hRt h3 hik hi0 hz0
  obtain ⟨W1, hW1⟩ : ∃ W1, W1 = w.drew.alloc (.cells ROW.toArray 52) := ⟨_, rfl⟩
  rw [← hW1] at hrz HW1 HO2 HOX HGR
  clear hW1
  generalize hN : w.heap.size = g9 at *
  have HN := Lib.hid hN
  clear hN
  go_enter Try.func87, Try.ntmps87
  go_wp2_with (first
    | (at_builtin; refine Lib.wpList_append_run _ rfl _ _ _ _ rfl _ _ rfl rfl _ _ (hrz _) ?_)
    | (refine wpList_copy_K rfl (.tmp 43) (.tmp 44) 22 22 rfl 52 3 Try.underlying22 size_N g9 (i * 3) (n + 1 - i) (G - i) ⟨g, 0, none⟩ 1 k rfl rfl ROW 52 HW1.out cs 1 (by simp only [Nat.min_def]; split <;> omega) (by rw [hl]) (fun j u hu => by rw [addAt, Nat.zero_add, Go.cell_of_row W1 g j _ _ _ HOX.out]; simpa using hu) (by have := Nat.mul_le_mul_right 3 hGn; have := Nat.mul_le_mul_right 3 hin; have e1 := Nat.succ_mul i 3; have e2 := Nat.succ_mul n 3; rw [hl, HRL.out]; omega) h1 ?_; intro w2 HR2 HG2))
  have HC2 := Lib.hid ((HG2.out.block g2 (Nat.lt_of_lt_of_le hg2lt (by have := HGR.out.size; rw [HN.out] at this; exact this)) (by simp; omega)).trans HO2.out)
  go_region_law (refine step_copy_K rfl (.tmp 50) (.tmp 53) 22 22 rfl 52 3 Try.underlying22 size_N g9 ((i + 1) * 3) (n - i) (G - (i + 1)) ⟨g2, i * 3, none⟩ (n - i) (c - i) (by simp [Act.eval, Act.put]) (by simp [Act.eval, Act.put]) (splice ROW (i * 3) cs) 52 (show (w2.drew).heap[g9]? = _ from HR2.out) (xs.drop (i * 3)) (n - i) (by simp only [Nat.min_def]; split <;> omega) (by rw [List.length_drop, HXL.out, Nat.sub_mul]) (idx_drop (c := 0) (show (w2.drew).heap[g2]? = _ from HC2.out) HTK.out) (by have := Nat.mul_le_mul_right 3 hGn; have := Nat.mul_le_mul_right 3 hin; have e1 := Nat.succ_mul i 3; have e2 := Nat.succ_mul n 3; rw [length_splice _ _ _ (by rw [hl, HRL.out]; omega), List.length_drop, HXL.out, HRL.out]; omega) (fun u hu => h1x u (List.mem_of_mem_drop hu)) ?_; intro w3 HR3 HG3)
  go_wp2_with (fail)
  go_ret
  have HG2' := Lib.hid (grown_new HGR.out HG2.out (by rw [HN.out]; exact Nat.le_refl _))
  have HG3' := Lib.hid (show w2.grownBy w3 (some g9) from ⟨HG3.out.os, HG3.out.tape, HG3.out.output, HG3.out.size, HG3.out.block⟩)
  have HLEN := Lib.hid (by have := Nat.mul_le_mul_right 3 hGn; have := Nat.mul_le_mul_right 3 hin; have e1 := Nat.succ_mul i 3; have e2 := Nat.succ_mul n 3; rw [length_splice _ _ _ (by rw [length_splice _ _ _ (by rw [hl, HRL.out]; omega), List.length_drop, HXL.out, HRL.out]; omega), length_splice _ _ _ (by rw [hl, HRL.out]; omega)]; exact HRL.out : (splice (splice ROW (i * 3) cs) ((i + 1) * 3) (xs.drop (i * 3))).length = G * 3)
  refine ⟨_, _, rfl, ⟨?_, .inr ⟨g9, G, _, rfl, hb, HR3.out, hGn, hG63, by simpa using HLEN.out, ?_⟩⟩, grown_new HG2'.out HG3'.out (by rw [HN.out]; exact Nat.le_refl _)⟩
  · have := Nat.mul_le_mul_right 3 hin; have e2 := Nat.succ_mul n 3; simp only [List.length_append, List.length_take, List.length_drop, HXL.out, hl]; omega
  · have := splice_new ROW xs cs i 3 n hl hin HXL.out (by rw [HRL.out]; exact Nat.mul_le_mul_right 3 hGn) HRT.out
    simpa using this
theorem ins_N (A : Option Addr) (n c base g k i : Nat) (xs cs : List Value) (w : World) (hown : w.ownsRow base 52 3 (.slice A n c) n xs) (hl : cs.length = 3) (t : TypeId) (hx : w.heap[g]? = some (.cells cs.toArray t (0, 0))) (h1 : ∀ u ∈ cs, u.oneCell' = true) (h1x : ∀ u ∈ xs, u.oneCell' = true) (hne : (Value.slice A n c).ownBlock ≠ some g) (hi : i ≤ n) (hby : (n + 1) * 16 ≤ 140737488355328) (hb : base ≤ w.heap.size) :
    Calls Try.prog 87 #[.slice A n c, .int .i64 i, .slice (some ⟨g, 0, none⟩) 1 k] w fun e w' => ∃ A' c', e = .returned (.slice A' (n + 1) c') ∧ w'.ownsRow base 52 3 (.slice A' (n + 1) c') (n + 1) (xs.take (i * 3) ++ cs ++ xs.drop (i * 3)) ∧ w.grownBy w' (Value.slice A n c).ownBlock := by
  by_cases e : i = n
  · subst e
    rw [List.take_of_length_le (by rw [hown.1]; exact Nat.le_refl _), List.drop_of_length_le (by rw [hown.1]; exact Nat.le_refl _), List.append_nil]
    exact insN_end A i c base g k xs cs w hown hl (fun j u hu => by rw [Go.cell_of_row w g j _ _ _ hx]; simpa using hu) h1 hby hb
  · rcases own_cases hown with ⟨rfl, rfl, rfl⟩ | ⟨g2, rfl, hnc, hcm⟩
    · omega
    · have hg : g ≠ g2 := fun h => hne (by rw [h]; rfl)
      rcases Nat.lt_or_ge c (n + 1) with hr | hr
      · exact ins_new_N n c base g k i g2 xs cs w hown hl t hx h1 h1x hg (by omega) hr hby hb
      · exact ins_mid_N n c base g k i g2 xs cs w hown hl t hx h1 h1x hg (by omega) hr
theorem size_L : (Try.prog.info? 54).map (fun i => i.size) = some 4 := by kernel_rfl
theorem over_L (w : World) (g off kc g2 off2 lb cb : Nat) (hne : g ≠ g2) (cs cs2 : Array Value) (t t2 : TypeId) (h1 : w.heap[g]? = some (.cells cs t (0, 0))) (h2 : w.heap[g2]? = some (.cells cs2 t2 (0, 0))) (h0 : cs2.size ≠ 0) :
    (callFunc 103 #[.slice (some ⟨g, 0, none⟩) 1 kc, .slice (some ⟨g2, off2, none⟩) lb cb]).run Try.prog w = .ok (.value (.bool false)) w := by
  rw [run_callFunc_extern (P := Try.prog) Try.func103 (by kernel_rfl) (by kernel_rfl) (by kernel_rfl) (e := Extern.SlicesOverlaps.overlaps #[23, 23] #[4]) (by kernel_rfl),
    Lib.run_overlaps_apart w 23 4 54 Try.underlying23 4 (fun w => by rw [show sizeOf 54 = _ from rfl]; simp [sizeOf, typeInfo]; rfl) ⟨g, 0, none⟩ ⟨g2, off2, none⟩ 1 kc lb cb hne t t2 cs.size cs2.size (shape_row h1) (shape_row h2) h0 (Go.frozen_of_row w g _ _ _ h1) (Go.frozen_of_row w g _ _ _ h1)]
  rfl
theorem ins_mid_L (n c base g k i g2 : Nat) (xs cs : List Value) (w : World) (hown : w.ownsRow base 54 4 (.slice (some ⟨g2, 0, none⟩) n c) n xs) (hl : cs.length = 4) (t : TypeId) (hx : w.heap[g]? = some (.cells cs.toArray t (0, 0))) (h1 : ∀ u ∈ cs, u.oneCell' = true) (h1x : ∀ u ∈ xs, u.oneCell' = true) (hne : g ≠ g2) (hi : i < n) (hroom : n + 1 ≤ c) :
    Calls Try.prog 89 #[.slice (some ⟨g2, 0, none⟩) n c, .int .i64 i, .slice (some ⟨g, 0, none⟩) 1 k] w fun e w' => ∃ A' c', e = .returned (.slice A' (n + 1) c') ∧ w'.ownsRow base 54 4 (.slice A' (n + 1) c') (n + 1) (xs.take (i * 4) ++ cs ++ xs.drop (i * 4)) ∧ w.grownBy w' (some g2) := by
  obtain ⟨hxl, hcase⟩ := hown
  rcases hcase with ⟨h, _⟩ | ⟨g3, cap, cur, he, hbg, hcur, hnc, hcm, hcs, htk⟩
  · cases h
  injection he with e1 e2 e3
  injection e1 with e1
  injection e1 with e1 e4 e5
  subst e1
  subst e3
  obtain ⟨L, rfl⟩ : ∃ L : List Value, L.toArray = cur := ⟨cur.toList, by simp⟩
  have hov := fun lb cb off2 => over_L w g 0 k g2 off2 lb cb hne cs.toArray L.toArray t _ hx hcur (by rw [hcs]; omega)
  have hcm2 : c ≤ 9223372036854775807 := hcm
  have hw1 : IntKind.i64.wrap ((i : Int) + 1) = (i : Int) + 1 := by rw [IntKind.wrap_i64]; omega
  have hw2 : IntKind.i64.wrap ((n : Int) + 1) = (n : Int) + 1 := by rw [IntKind.wrap_i64]; omega
  have hz2 : ¬ ((i : Int) = (n : Int)) := by omega
  have hb1 : ¬ ((c : Int) < (n : Int) + 1) := by omega
  have hb2 : ¬ (c = i + 1) := by omega
  have hb4 : ¬ (c = i) := by omega
  have hin : i ≤ n := by omega
  have hb3 : (i : Int) + 1 ≤ (n : Int) + 1 := by omega
  have hb5 : (0 : Int) ≤ (i : Int) + 1 := by omega
  have hb6 : (i : Int) ≤ (n : Int) + 1 := by omega
  have htn : ((i : Int) + 1).toNat = i + 1 := by omega
  have htm : ((n : Int) + 1).toNat = n + 1 := by omega
  have HX := Lib.hid hx
  have HC := Lib.hid hcur
  have HTK := Lib.hid htk
  have HXL := Lib.hid hxl
  have HCS := Lib.hid hcs
  simp at htk hcs
  have HLL := Lib.hid hcs
  have HLT := Lib.hid htk
  clear hx hcur htk hxl hcs hcm
  go_enter Try.func89, Try.ntmps89
  go_wp2_with (simp only [hov])
  go_region_law (refine step_copy_K rfl (.tmp 73) (.tmp 76) 23 23 rfl 54 4 Try.underlying23 size_L g2 ((i + 1) * 4) (n - i) (c - (i + 1)) ⟨g2, i * 4, none⟩ (n + 1 - i) (c - i) (by simp [Act.eval, Act.put]) (by simp [Act.eval, Act.put]) L 54 (show (w.drew).heap[g2]? = _ from HC.out) (xs.drop (i * 4)) (n - i) (by simp only [Nat.min_def]; split <;> omega) (by rw [List.length_drop, HXL.out, Nat.sub_mul]) (idx_drop (c := 0) (show (w.drew).heap[g2]? = _ from HC.out) HLT.out) (by rw [List.length_drop, HXL.out, HLL.out]; have := Nat.mul_le_mul_right 4 hroom; have := Nat.mul_le_mul_right 4 hin; have := Nat.succ_mul i 4; have := Nat.succ_mul n 4; omega) (fun u hu => h1x u (List.mem_of_mem_drop hu)) ?_; intro w1 HR1 HG1)
  have HG1' := Lib.hid (show w.grownBy w1 (some g2) from ⟨HG1.out.os, HG1.out.tape, HG1.out.output, HG1.out.size, HG1.out.block⟩)
  have HXw := Lib.hid ((HG1'.out.block g (by rcases Nat.lt_or_ge g w.heap.size with h | h; exact h; have := HX.out; rw [Array.getElem?_eq_none h] at this; cases this) (by simp; exact hne)).trans HX.out)
  have q1 : Nat.min 1 (n + 1 - i) = 1 := by simp only [Nat.min_def]; split <;> omega
  have q2 : cs.length = 1 * 4 := by rw [hl]
  have q3 : ∀ j u, cs[j]? = some u → w1.cell? ((⟨g, 0, none⟩ : Addr).add j) = some u := fun j u hu => by rw [addAt, Nat.zero_add, Go.cell_of_row w1 g j _ _ _ HXw.out]; simpa using hu
  have q4 : i * 4 + cs.length ≤ (splice L ((i + 1) * 4) (xs.drop (i * 4))).length := by have := Nat.mul_le_mul_right 4 hroom; have := Nat.mul_le_mul_right 4 hin; have e1 := Nat.succ_mul i 4; have e2 := Nat.succ_mul n 4; rw [length_splice _ _ _ (by rw [List.length_drop, HXL.out, HLL.out]; omega), hl, HLL.out]; omega
  have Q3 := Lib.hid q3
  have Q4 := Lib.hid q4
  clear q3 q4
  go_wp2_with (refine wpList_copy_K rfl (.tmp 80) (.tmp 81) 23 23 rfl 54 4 Try.underlying23 size_L g2 (i * 4) (n + 1 - i) (c - i) ⟨g, 0, none⟩ 1 k rfl rfl (splice L ((i + 1) * 4) (xs.drop (i * 4))) 54 HR1.out cs 1 q1 q2 Q3.out Q4.out h1 ?_; intro w2 HR2 HG2)
  go_ret
  have HLEN := Lib.hid (by have := Nat.mul_le_mul_right 4 hroom; have := Nat.mul_le_mul_right 4 hin; have e1 := Nat.succ_mul i 4; have e2 := Nat.succ_mul n 4; rw [length_splice _ _ _ (by rw [length_splice _ _ _ (by rw [List.length_drop, HXL.out, HLL.out]; omega), hl, HLL.out]; omega), length_splice _ _ _ (by rw [List.length_drop, HXL.out, HLL.out]; omega)]; exact HLL.out : (splice (splice L ((i + 1) * 4) (xs.drop (i * 4))) (i * 4) cs).length = c * 4)
  refine ⟨_, _, rfl, ⟨?_, .inr ⟨g2, c, _, rfl, hbg, HR2.out, hroom, hcm2, by simpa using HLEN.out, ?_⟩⟩, grown_trans HG1'.out HG2.out⟩
  · have := Nat.mul_le_mul_right 4 hin; have e2 := Nat.succ_mul n 4; simp only [List.length_append, List.length_take, List.length_drop, HXL.out, hl]; omega
  · have := splice_in L xs cs i 4 n hl hin HXL.out (by rw [HLL.out]; exact Nat.mul_le_mul_right 4 hroom) HLT.out
    simpa using this
theorem ins_new_L (n c base g k i g2 : Nat) (xs cs : List Value) (w : World) (hown : w.ownsRow base 54 4 (.slice (some ⟨g2, 0, none⟩) n c) n xs) (hl : cs.length = 4) (t : TypeId) (hx : w.heap[g]? = some (.cells cs.toArray t (0, 0))) (h1 : ∀ u ∈ cs, u.oneCell' = true) (h1x : ∀ u ∈ xs, u.oneCell' = true) (hne : g ≠ g2) (hi : i < n) (hroom : c < n + 1) (hby : (n + 1) * 32 ≤ 140737488355328) (hb : base ≤ w.heap.size) :
    Calls Try.prog 89 #[.slice (some ⟨g2, 0, none⟩) n c, .int .i64 i, .slice (some ⟨g, 0, none⟩) 1 k] w fun e w' => ∃ A' c', e = .returned (.slice A' (n + 1) c') ∧ w'.ownsRow base 54 4 (.slice A' (n + 1) c') (n + 1) (xs.take (i * 4) ++ cs ++ xs.drop (i * 4)) ∧ w.grownBy w' (some g2) := by
  obtain ⟨hxl, hcase⟩ := hown
  rcases hcase with ⟨h, _⟩ | ⟨g3, cap, cur, he, hbg, hcur, hnc, hcm, hcs, htk⟩
  · cases h
  injection he with e1 e2 e3
  injection e1 with e1
  injection e1 with e1 e4 e5
  subst e1
  subst e3
  obtain ⟨L, rfl⟩ : ∃ L : List Value, L.toArray = cur := ⟨cur.toList, by simp⟩
  have hcm2 : c ≤ 9223372036854775807 := hcm
  obtain ⟨i0, hi0, hz0, hzs, hzb⟩ := info_partsG infoLK
  have hik : i + (n + 1 - i) = n + 1 := by omega
  have h4 : (n : Int) + 1 - (i : Int) = ((n + 1 - i : Nat) : Int) := by omega
  simp at htk hcs
  have hold : (Builtin.firstCells i0.size i (.slice (some ⟨g2, 0, none⟩) i c)).run Try.prog w.drew = .ok (xs.take (i * 4)).toArray w.drew := by
    rw [hzs]
    refine run_firstCells_some w.drew 4 i ⟨g2, 0, none⟩ i c (xs.take (i * 4)) (by rw [List.length_take, hxl]; have := Nat.mul_le_mul_right 4 (Nat.le_of_lt hi); omega) (fun j v hj => ?_)
    rw [addAt, Nat.zero_add]
    rw [Go.cell_of_row w.drew g2 j _ _ _ hcur]
    rw [List.getElem?_take] at hj
    split at hj
    · rw [← htk, List.getElem?_take] at hj
      split at hj
      · simpa using hj
      · cases hj
    · cases hj
  obtain ⟨G, hG⟩ : ∃ G, G = grownCap w (n + 1) c 54 := ⟨_, rfl⟩
  obtain ⟨ROW, hROW⟩ : ∃ ROW : List Value, ROW = xs.take (i * 4) ++ (Builtin.zeroCells (.agg #[.int .i64 0, .int .i64 0, .float .f64 0, .bool false] : Value).cells (n + 1 - i)).toList ++ (Builtin.zeroCells (.agg #[.int .i64 0, .int .i64 0, .float .f64 0, .bool false] : Value).cells (G - (n + 1))).toList := ⟨_, rfl⟩
  have hGn : n + 1 ≤ G := by rw [hG]; exact grownCap_ge w _ _ _
  have hG63 : G ≤ maxLen := by rw [hG]; exact grownCap_le_maxLen w (n + 1) c 54 (by unfold maxLen; omega)
  have hG64 : G ≤ 9223372036854775807 := hG63
  have hrz : ∀ ty, (Builtin.append_ #[23, 3] ty #[.slice (some ⟨g2, 0, none⟩) i c, .int .i64 ((n : Int) + 1 - (i : Int))]).run Try.prog w =
      .ok (.slice (some ⟨w.heap.size, 0, none⟩) (n + 1) G) (w.drew.alloc (.cells ROW.toArray 54)) := fun ty => by
    have h := Lib.run_append_grow_zeros w 23 3 ty 54 i0 _ .i64 .i64 Try.underlying23 Try.underlying3 hi0 hz0 (some ⟨g2, 0, none⟩) i c (xs.take (i * 4)) hold (n + 1 - i) (by omega) (by omega) (by omega) (by omega) (by rw [hzb]; omega) (by rw [hzb, hik]; exact growslice_fits hroom hby)
    rw [hik, ← hG] at h
    rw [h4, h, hROW, arr3]
  have hRl : ROW.length = G * 4 := by
    rw [hROW]
    simp only [List.length_append, List.length_take, hxl, Array.length_toList, size_zeroCells]
    have e : (Value.cells (.agg #[.int .i64 0, .int .i64 0, .float .f64 0, .bool false] : Value)).size = 4 := rfl
    rw [e]
    have := Nat.mul_le_mul_right 4 (Nat.le_of_lt hi)
    omega
  have hRt : ROW.take (i * 4) = xs.take (i * 4) := by
    rw [hROW, List.append_assoc, List.take_append_of_le_length (by rw [List.length_take, hxl]; have := Nat.mul_le_mul_right 4 (Nat.le_of_lt hi); omega), List.take_take]
    congr 1; omega
  have hg2lt := lt_of_heap2 hcur
  have hglt := lt_of_heap2 hx
  have HW1 := Lib.hid (Go.heap_alloc_new w.drew (.cells ROW.toArray 54))
  have HO2 := Lib.hid ((Go.heap_alloc_old w.drew (.cells ROW.toArray 54) hg2lt).trans hcur)
  have HOX := Lib.hid ((Go.heap_alloc_old w.drew (.cells ROW.toArray 54) hglt).trans hx)
  have HGR := Lib.hid (show w.grownBy (w.drew.alloc (.cells ROW.toArray 54)) (some g2) from ⟨rfl, rfl, rfl, Nat.le_of_lt (by simp), fun q hq _ => Go.heap_alloc_old w.drew _ hq⟩)
  have hsz : (w.drew).heap.size = w.heap.size := rfl
  rw [hsz] at HW1
  have hw1 : IntKind.i64.wrap ((i : Int) + 1) = (i : Int) + 1 := by rw [IntKind.wrap_i64]; omega
  have hw2 : IntKind.i64.wrap ((n : Int) + 1) = (n : Int) + 1 := by rw [IntKind.wrap_i64]; omega
  have hw3 : IntKind.i64.wrap ((n : Int) + 1 - (i : Int)) = (n : Int) + 1 - (i : Int) := by rw [IntKind.wrap_i64]; omega
  have hz2 : ¬ ((i : Int) = (n : Int)) := by omega
  have hb1 : (c : Int) < (n : Int) + 1 := by omega
  have hb2 : ¬ (G = i + 1) := by omega
  have hb4 : ¬ (G = i) := by omega
  have hb7 : ¬ (c = i) := by omega
  have hin : i ≤ n := by omega
  have hb3 : (i : Int) + 1 ≤ (n : Int) + 1 := by omega
  have hb5 : (0 : Int) ≤ (i : Int) + 1 := by omega
  have hb6 : (i : Int) ≤ (n : Int) + 1 := by omega
  have hb8 : (i : Int) ≤ (n : Int) := by omega
  have htn : ((i : Int) + 1).toNat = i + 1 := by omega
  have HTK := Lib.hid htk
  have HXL := Lib.hid hxl
  have HRL := Lib.hid hRl
  have HRT := Lib.hid hRt
  clear hx hcur htk hxl hcs hcm hold hROW hG hRl hRt h4 hik hi0 hz0
  obtain ⟨W1, hW1⟩ : ∃ W1, W1 = w.drew.alloc (.cells ROW.toArray 54) := ⟨_, rfl⟩
  rw [← hW1] at hrz HW1 HO2 HOX HGR
  clear hW1
  generalize hN : w.heap.size = g9 at *
  have HN := Lib.hid hN
  clear hN
  go_enter Try.func89, Try.ntmps89
  go_wp2_with (first
    | (at_builtin; refine Lib.wpList_append_run _ rfl _ _ _ _ rfl _ _ rfl rfl _ _ (hrz _) ?_)
    | (refine wpList_copy_K rfl (.tmp 43) (.tmp 44) 23 23 rfl 54 4 Try.underlying23 size_L g9 (i * 4) (n + 1 - i) (G - i) ⟨g, 0, none⟩ 1 k rfl rfl ROW 54 HW1.out cs 1 (by simp only [Nat.min_def]; split <;> omega) (by rw [hl]) (fun j u hu => by rw [addAt, Nat.zero_add, Go.cell_of_row W1 g j _ _ _ HOX.out]; simpa using hu) (by have := Nat.mul_le_mul_right 4 hGn; have := Nat.mul_le_mul_right 4 hin; have e1 := Nat.succ_mul i 4; have e2 := Nat.succ_mul n 4; rw [hl, HRL.out]; omega) h1 ?_; intro w2 HR2 HG2))
  have HC2 := Lib.hid ((HG2.out.block g2 (Nat.lt_of_lt_of_le hg2lt (by have := HGR.out.size; rw [HN.out] at this; exact this)) (by simp; omega)).trans HO2.out)
  go_region_law (refine step_copy_K rfl (.tmp 50) (.tmp 53) 23 23 rfl 54 4 Try.underlying23 size_L g9 ((i + 1) * 4) (n - i) (G - (i + 1)) ⟨g2, i * 4, none⟩ (n - i) (c - i) (by simp [Act.eval, Act.put]) (by simp [Act.eval, Act.put]) (splice ROW (i * 4) cs) 54 (show (w2.drew).heap[g9]? = _ from HR2.out) (xs.drop (i * 4)) (n - i) (by simp only [Nat.min_def]; split <;> omega) (by rw [List.length_drop, HXL.out, Nat.sub_mul]) (idx_drop (c := 0) (show (w2.drew).heap[g2]? = _ from HC2.out) HTK.out) (by have := Nat.mul_le_mul_right 4 hGn; have := Nat.mul_le_mul_right 4 hin; have e1 := Nat.succ_mul i 4; have e2 := Nat.succ_mul n 4; rw [length_splice _ _ _ (by rw [hl, HRL.out]; omega), List.length_drop, HXL.out, HRL.out]; omega) (fun u hu => h1x u (List.mem_of_mem_drop hu)) ?_; intro w3 HR3 HG3)
  go_wp2_with (fail)
  go_ret
  have HG2' := Lib.hid (grown_new HGR.out HG2.out (by rw [HN.out]; exact Nat.le_refl _))
  have HG3' := Lib.hid (show w2.grownBy w3 (some g9) from ⟨HG3.out.os, HG3.out.tape, HG3.out.output, HG3.out.size, HG3.out.block⟩)
  have HLEN := Lib.hid (by have := Nat.mul_le_mul_right 4 hGn; have := Nat.mul_le_mul_right 4 hin; have e1 := Nat.succ_mul i 4; have e2 := Nat.succ_mul n 4; rw [length_splice _ _ _ (by rw [length_splice _ _ _ (by rw [hl, HRL.out]; omega), List.length_drop, HXL.out, HRL.out]; omega), length_splice _ _ _ (by rw [hl, HRL.out]; omega)]; exact HRL.out : (splice (splice ROW (i * 4) cs) ((i + 1) * 4) (xs.drop (i * 4))).length = G * 4)
  refine ⟨_, _, rfl, ⟨?_, .inr ⟨g9, G, _, rfl, hb, HR3.out, hGn, hG63, by simpa using HLEN.out, ?_⟩⟩, grown_new HG2'.out HG3'.out (by rw [HN.out]; exact Nat.le_refl _)⟩
  · have := Nat.mul_le_mul_right 4 hin; have e2 := Nat.succ_mul n 4; simp only [List.length_append, List.length_take, List.length_drop, HXL.out, hl]; omega
  · have := splice_new ROW xs cs i 4 n hl hin HXL.out (by rw [HRL.out]; exact Nat.mul_le_mul_right 4 hGn) HRT.out
    simpa using this
theorem ins_L (A : Option Addr) (n c base g k i : Nat) (xs cs : List Value) (w : World) (hown : w.ownsRow base 54 4 (.slice A n c) n xs) (hl : cs.length = 4) (t : TypeId) (hx : w.heap[g]? = some (.cells cs.toArray t (0, 0))) (h1 : ∀ u ∈ cs, u.oneCell' = true) (h1x : ∀ u ∈ xs, u.oneCell' = true) (hne : (Value.slice A n c).ownBlock ≠ some g) (hi : i ≤ n) (hby : (n + 1) * 32 ≤ 140737488355328) (hb : base ≤ w.heap.size) :
    Calls Try.prog 89 #[.slice A n c, .int .i64 i, .slice (some ⟨g, 0, none⟩) 1 k] w fun e w' => ∃ A' c', e = .returned (.slice A' (n + 1) c') ∧ w'.ownsRow base 54 4 (.slice A' (n + 1) c') (n + 1) (xs.take (i * 4) ++ cs ++ xs.drop (i * 4)) ∧ w.grownBy w' (Value.slice A n c).ownBlock := by
  by_cases e : i = n
  · subst e
    rw [List.take_of_length_le (by rw [hown.1]; exact Nat.le_refl _), List.drop_of_length_le (by rw [hown.1]; exact Nat.le_refl _), List.append_nil]
    exact insL_end A i c base g k xs cs w hown hl (fun j u hu => by rw [Go.cell_of_row w g j _ _ _ hx]; simpa using hu) h1 hby hb
  · rcases own_cases hown with ⟨rfl, rfl, rfl⟩ | ⟨g2, rfl, hnc, hcm⟩
    · omega
    · have hg : g ≠ g2 := fun h => hne (by rw [h]; rfl)
      rcases Nat.lt_or_ge c (n + 1) with hr | hr
      · exact ins_new_L n c base g k i g2 xs cs w hown hl t hx h1 h1x hg (by omega) hr hby hb
      · exact ins_mid_L n c base g k i g2 xs cs w hown hl t hx h1 h1x hg (by omega) hr

end Go.Proofs.Ytgmljlgoaifneaa
