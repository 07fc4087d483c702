/- The walk of the reference's linked, the first number being the lesser. Conditions: as each theorem's hypotheses say. -/
import Derived.Test.YtgmljlgoaifneaaGrb
import Derived.Deep.RegionLaw
import Derived.Laws.ResultCell
namespace Go.Proofs.Ytgmljlgoaifneaa
open Go.RowKit Flt Go.Mem Go.Lib
set_option linter.unusedVariables false

attribute [local go_sem] run_store_float
set_option maxHeartbeats 3200000
set_option maxRecDepth 100000
theorem ret_graph8 {fn : Func} {u v : Value} {k : Int} (h : fn.results = #[.cell 8 25, .tmp 9]) (tmps : Array Value) (w : World) (g : Nat) (hp : tmps.getD 8 undef = .pointer (some ⟨g, 0, none⟩)) (hk : tmps.getD 9 undef = .int .i64 k) (hg : GB w g u v) :
    (results fn tmps).run Try.prog w = .ok (.tuple #[.agg #[u, v], .int .i64 k]) w := by
  rw [results_cell_tmp h, hp, hk]
  simp [asAddr, Go.run_loadVar_row (P := Try.prog) w g 25 25 _ (0, 0) _ hg Try.underlying25 rfl (by kernel_rfl), Result.andThen]
/-- the first i links, the new one among them once its place is passed -/
def curL (ls : List Lk) (t : Lk) (i : Nat) : List Lk := if cntL ls t < i then ls.take (cntL ls t) ++ [t] ++ (ls.take i).drop (cntL ls t) else ls.take i
theorem curL_step {ls : List Lk} {t : Lk} {i : Nat} (hi : i < ls.length) (hne : i ≠ cntL ls t) : curL ls t (i + 1) = curL ls t i ++ [lkA ls i] := by
  unfold curL
  rcases Nat.lt_or_ge (cntL ls t) i with h | h
  · rw [if_pos h, if_pos (by omega), take_lk hi, List.drop_append_of_le_length (by rw [List.length_take]; omega)]
    simp
  · rw [if_neg (by omega), if_neg (by omega), take_lk hi]
theorem curL_at {ls : List Lk} {t : Lk} (hi : cntL ls t < ls.length) : curL ls t (cntL ls t + 1) = (curL ls t (cntL ls t) ++ [t]) ++ [lkA ls (cntL ls t)] := by
  unfold curL
  rw [if_pos (by omega), if_neg (by omega), take_lk hi, List.drop_append_of_le_length (by rw [List.length_take]; omega), List.drop_of_length_le (by rw [List.length_take]; omega)]
  simp
theorem curL_end {ls : List Lk} {t : Lk} : (cntL ls t < ls.length → curL ls t ls.length = addL ls t) ∧ (cntL ls t = ls.length → curL ls t ls.length ++ [t] = addL ls t) := by
  unfold curL addL
  constructor
  · intro h
    rw [if_pos h, List.take_of_length_le (i := ls.length) (Nat.le_refl _)]
  · intro h
    rw [if_neg (by omega), h, List.take_of_length_le (i := ls.length) (Nat.le_refl _), List.drop_of_length_le (Nat.le_refl _), List.append_nil]
theorem curL_len {ls : List Lk} {t : Lk} {i : Nat} : (curL ls t i).length ≤ i + 1 := by
  unfold curL; split
  · simp only [List.length_append, List.length_take, List.length_drop, List.length_cons, List.length_nil]; omega
  · simp only [List.length_take]; omega
theorem lk_lo {ns : List Nd} {ls : List Lk} (g : Good ns ls) {t : Lk} {i : Nat} (hi : i < ls.length) (h : i < cntL ls t) : lkLt (lkA ls i) t = true := by
  have := (cut_lk (t := t) g.lrise).1 (ls[i]) (by
    have e : (ls.take (cntL ls t))[i]'(by rw [List.length_take]; omega) = ls[i] := List.getElem_take
    rw [← e]; exact List.getElem_mem _)
  rw [lkA_get hi]; exact this
theorem lk_hi {ns : List Nd} {ls : List Lk} (g : Good ns ls) {t : Lk} (hno : hasL ls t = false) {i : Nat} (hi : i < ls.length) (h : cntL ls t ≤ i) : lkLt t (lkA ls i) = true := by
  have h1 := (cut_lk (t := t) g.lrise).2 (ls[i]) (by
    have e : (ls.drop (cntL ls t))[i - cntL ls t]'(by rw [List.length_drop]; omega) = ls[i] := by rw [List.getElem_drop]; congr 1; omega
    rw [← e]; exact List.getElem_mem _)
  have h2 := hasL_no hno (ls[i]) (List.getElem_mem _)
  rw [lkA_get hi]; rw [lkLt_iff] at h1 ⊢; omega
set_option maxHeartbeats 12800000 in
theorem linked_lo (A A2 : Option Addr) (n c m c2 : Nat) (a b : Int) (x : Nat) (ns : List Nd) (ls : List Lk) (w : World) (hg : GN w w.heap.size A n ns) (hl : GL w w.heap.size A2 m ls) (hG : Good ns ls) (hx64 : x < 18446744073709551616) (hab0 : ¬ b < a) (E : Int) (NS : List Nd) (LS : List Lk)
    (hE : E = if hasN ns a = false then 70 else if hasN ns b = false then 70 else if a = b then 71 else if hasL ls ⟨a, b, x, true⟩ = true then 72 else if withinI x 4697254411347427328 = 0 then (if 4096 ≤ ls.length then 2 else 0) else withinI x 4697254411347427328) (hNS : NS = if E = 0 then ns else []) (hLS : LS = if E = 0 then addL ls ⟨a, b, x, true⟩ else []) (hlk : hasL ls (lkT a b) = hasL ls ⟨a, b, x, true⟩) :
    Calls Try.prog 38 #[.agg #[.slice A n c, .slice A2 m c2], .int .i64 a, .int .i64 b, .float .f64 x] w (QPost E NS LS w) := by
  obtain ⟨iL, hiL, hzL0, hzL1, hzL2⟩ := info_partsG infoLK
  have HN := Lib.hid hg
  have HL := Lib.hid hl
  have HGD := Lib.hid hG
  have HE := Lib.hid hE
  have HNS := Lib.hid hNS
  have HLS := Lib.hid hLS
  have HLK := Lib.hid hlk
  have hnl : ns.length = n := hg.1
  have hml : ls.length = m := hl.1
  have hn256 : n ≤ 256 := by rw [← hnl]; exact hG.n
  have hm4096 : m ≤ 4096 := by rw [← hml]; exact hG.l
  have WEI := Lib.hid (fun W => rweight_any x hx64 W)
  clear hg hl hG hE hNS hLS hx64 hlk
  have hX0 : ((w.alloc (.cells #[.slice A n c, .slice A2 m c2] 25)).alloc (.cells #[.slice none 0 0, .slice none 0 0] 25)).heap[w.heap.size]? = some (.cells #[.slice A n c, .slice A2 m c2] 25 (0, 0)) := (Go.heap_alloc_old _ _ (by simp)).trans (Go.heap_alloc_new w _)
  have hX1 : ((w.alloc (.cells #[.slice A n c, .slice A2 m c2] 25)).alloc (.cells #[.slice none 0 0, .slice none 0 0] 25)).heap[w.heap.size + 1]? = some (.cells #[.slice none 0 0, .slice none 0 0] 25 (0, 0)) := by
    have := Go.heap_alloc_new (w.alloc (.cells #[.slice A n c, .slice A2 m c2] 25)) (.cells #[.slice none 0 0, .slice none 0 0] 25)
    rw [show (w.alloc (.cells #[.slice A n c, .slice A2 m c2] 25)).heap.size = w.heap.size + 1 by simp] at this
    exact this
  have hB0 := ((Below.refl w.heap.size w).alloc (Nat.le_refl _) (.cells #[.slice A n c, .slice A2 m c2] 25)).alloc (by simp) (.cells #[.slice none 0 0, .slice none 0 0] 25)
  go_enter Try.func38, Try.ntmps38
  go_upto_region 1 with fail
  generalize (w.alloc (.cells #[.slice A n c, .slice A2 m c2] 25)).alloc (.cells #[.slice none 0 0, .slice none 0 0] 25) = w1 at *
  generalize hg1 : w.heap.size + 1 = g1 at *
  generalize hg0 : w.heap.size = g0 at *
  have HGE := Lib.hid hg0
  have HG1 := Lib.hid (show GB w1 g1 (.slice none 0 0) (.slice none 0 0) from hX1)
  have HG0 := Lib.hid (show GB w1 g0 (.slice A n c) (.slice A2 m c2) from hX0)
  have HGG := Lib.hid (show g1 = g0 + 1 by omega)
  have HB1 := Lib.hid hB0
  clear hX0 hX1 hB0 hg1 hg0
  have GAT := Lib.hid (fun w' (h : Below g0 w w') => (by have := HGE.out; subst this; exact ⟨(HN.out.below h).more h.size, (HL.out.below h).more h.size⟩ : GN w' w'.heap.size A n ns ∧ GL w' w'.heap.size A2 m ls))
  have hgl := HG0.out.lt
  obtain ⟨e0, _⟩ := HG0.out.c0
  obtain ⟨e1, _⟩ := HG0.out.c1
  obtain ⟨z0, k0⟩ := HG1.out.c0
  obtain ⟨z1, k1⟩ := HG1.out.c1
  cases hA : hasN ns a
  · have eqv : 70 = E := Eq.symm (by rw [HE.out, hA]; rfl)
    subst eqv
    have eqv : [] = NS := Eq.symm (by rw [HNS.out, if_neg (by decide)])
    subst eqv
    have eqv : [] = LS := Eq.symm (by rw [HLS.out, if_neg (by decide)])
    subst eqv
    go_wp2_with (fail)
    refine (place_no (GAT.out _ HB1.out).1 (by omega) hA).mono ?_
    rintro e w2 ⟨rfl, hb⟩
    have hsz2 : g0 ≤ w1.heap.size := by have := HG0.out.lt; omega
    have HB2 := Lib.hid (HB1.out.trans (hb.mono hsz2))
    have HG12 := Lib.hid (HG1.out.below hb HG1.out.lt)
    have HG02 := Lib.hid (HG0.out.below hb HG0.out.lt)
    clear hb e0 e1 z0 k0 z1 k1
    obtain ⟨e0, _⟩ := HG02.out.c0
    obtain ⟨e1, _⟩ := HG02.out.c1
    obtain ⟨z0, k0⟩ := HG12.out.c0
    obtain ⟨z1, k1⟩ := HG12.out.c1
    go_wp2_with (fail)
    refine bodyPost_ret (ret_graph8 rfl _ _ _ rfl rfl ((HG12.out.s0 (.slice none 0 0)).s1 (.slice none 0 0))) rfl ?_
    have hge2 := HGE.out
    have hgg := HGG.out
    subst hge2
    exact ⟨none, 0, 0, none, 0, 0, rfl, World.ownsRow_nil _ _ _ _, World.ownsRow_nil _ _ _ _, (HB2.out.setCell (p := ⟨g1, 0, none⟩) (by show _ ≤ g1; omega) _).setCell (p := ⟨g1, 1, none⟩) (by show _ ≤ g1; omega) _⟩
  go_wp2_with (fail)
  refine (place_yes (GAT.out _ HB1.out).1 (by omega) hA).mono ?_
  rintro e w2 ⟨p2, rfl, _, _, hb⟩
  have hp2 : ¬ ((p2 : Int) < 0) := by omega
  have hsz2 : g0 ≤ w1.heap.size := by have := HG0.out.lt; omega
  have HB2 := Lib.hid (HB1.out.trans (hb.mono hsz2))
  have HG12 := Lib.hid (HG1.out.below hb HG1.out.lt)
  have HG02 := Lib.hid (HG0.out.below hb HG0.out.lt)
  clear hb e0 e1 z0 k0 z1 k1
  obtain ⟨e0, _⟩ := HG02.out.c0
  obtain ⟨e1, _⟩ := HG02.out.c1
  obtain ⟨z0, k0⟩ := HG12.out.c0
  obtain ⟨z1, k1⟩ := HG12.out.c1
  cases hBB : hasN ns b
  · have eqv : 70 = E := Eq.symm (by rw [HE.out, hA, hBB]; rfl)
    subst eqv
    have eqv : [] = NS := Eq.symm (by rw [HNS.out, if_neg (by decide)])
    subst eqv
    have eqv : [] = LS := Eq.symm (by rw [HLS.out, if_neg (by decide)])
    subst eqv
    go_wp2_with (fail)
    refine (place_no (GAT.out _ HB2.out).1 (by omega) hBB).mono ?_
    rintro e w3 ⟨rfl, hb⟩
    have hsz3 : g0 ≤ w2.heap.size := by have := HG02.out.lt; omega
    have HB3 := Lib.hid (HB2.out.trans (hb.mono hsz3))
    have HG13 := Lib.hid (HG12.out.below hb HG12.out.lt)
    have HG03 := Lib.hid (HG02.out.below hb HG02.out.lt)
    clear hb e0 e1 z0 k0 z1 k1
    obtain ⟨e0, _⟩ := HG03.out.c0
    obtain ⟨e1, _⟩ := HG03.out.c1
    obtain ⟨z0, k0⟩ := HG13.out.c0
    obtain ⟨z1, k1⟩ := HG13.out.c1
    go_wp2_with (fail)
    refine bodyPost_ret (ret_graph8 rfl _ _ _ rfl rfl ((HG13.out.s0 (.slice none 0 0)).s1 (.slice none 0 0))) rfl ?_
    have hge2 := HGE.out
    have hgg := HGG.out
    subst hge2
    exact ⟨none, 0, 0, none, 0, 0, rfl, World.ownsRow_nil _ _ _ _, World.ownsRow_nil _ _ _ _, (HB3.out.setCell (p := ⟨g1, 0, none⟩) (by show _ ≤ g1; omega) _).setCell (p := ⟨g1, 1, none⟩) (by show _ ≤ g1; omega) _⟩
  go_wp2_with (fail)
  refine (place_yes (GAT.out _ HB2.out).1 (by omega) hBB).mono ?_
  rintro e w3 ⟨p3, rfl, _, _, hb⟩
  have hp3 : ¬ ((p3 : Int) < 0) := by omega
  have hsz3 : g0 ≤ w2.heap.size := by have := HG02.out.lt; omega
  have HB3 := Lib.hid (HB2.out.trans (hb.mono hsz3))
  have HG13 := Lib.hid (HG12.out.below hb HG12.out.lt)
  have HG03 := Lib.hid (HG02.out.below hb HG02.out.lt)
  clear hb e0 e1 z0 k0 z1 k1
  obtain ⟨e0, _⟩ := HG03.out.c0
  obtain ⟨e1, _⟩ := HG03.out.c1
  obtain ⟨z0, k0⟩ := HG13.out.c0
  obtain ⟨z1, k1⟩ := HG13.out.c1
  by_cases hab : a = b
  · have eqv : 71 = E := Eq.symm (by rw [HE.out, hA, hBB, if_neg (by decide), if_neg (by decide), if_pos hab])
    subst eqv
    have eqv : [] = NS := Eq.symm (by rw [HNS.out, if_neg (by decide)])
    subst eqv
    have eqv : [] = LS := Eq.symm (by rw [HLS.out, if_neg (by decide)])
    subst eqv
    subst hab
    go_wp2_with (fail)
    refine bodyPost_ret (ret_graph8 rfl _ _ _ rfl rfl ((HG13.out.s0 (.slice none 0 0)).s1 (.slice none 0 0))) rfl ?_
    have hge2 := HGE.out
    have hgg := HGG.out
    subst hge2
    exact ⟨none, 0, 0, none, 0, 0, rfl, World.ownsRow_nil _ _ _ _, World.ownsRow_nil _ _ _ _, (HB3.out.setCell (p := ⟨g1, 0, none⟩) (by show _ ≤ g1; omega) _).setCell (p := ⟨g1, 1, none⟩) (by show _ ≤ g1; omega) _⟩
  have habb : (a == b) = false := by rw [beq_eq_false_iff_ne]; exact hab
  cases hLL : hasL ls ⟨a, b, x, true⟩
  rotate_left
  · have eqv : 72 = E := Eq.symm (by rw [HE.out, hA, hBB, hLL, if_neg (by decide), if_neg (by decide), if_neg hab, if_pos rfl])
    subst eqv
    have eqv : [] = NS := Eq.symm (by rw [HNS.out, if_neg (by decide)])
    subst eqv
    have eqv : [] = LS := Eq.symm (by rw [HLS.out, if_neg (by decide)])
    subst eqv
    go_wp2_with (fail)
    refine (rlink_yes (GAT.out _ HB3.out).2 HGD.out.RiseL (by omega) (by rw [HLK.out]; exact hLL)).mono ?_
    rintro e w4 ⟨rfl, hb⟩
    have hsz4 : g0 ≤ w3.heap.size := by have := HG03.out.lt; omega
    have HB4 := Lib.hid (HB3.out.trans (hb.mono hsz4))
    have HG14 := Lib.hid (HG13.out.below hb HG13.out.lt)
    have HG04 := Lib.hid (HG03.out.below hb HG03.out.lt)
    clear hb e0 e1 z0 k0 z1 k1
    obtain ⟨e0, _⟩ := HG04.out.c0
    obtain ⟨e1, _⟩ := HG04.out.c1
    obtain ⟨z0, k0⟩ := HG14.out.c0
    obtain ⟨z1, k1⟩ := HG14.out.c1
    have hq0 : (0 : Int) ≤ (cntL ls (lkT a b) : Int) := by omega
    go_wp2_with (fail)
    refine bodyPost_ret (ret_graph8 rfl _ _ _ rfl rfl ((HG14.out.s0 (.slice none 0 0)).s1 (.slice none 0 0))) rfl ?_
    have hge2 := HGE.out
    have hgg := HGG.out
    subst hge2
    exact ⟨none, 0, 0, none, 0, 0, rfl, World.ownsRow_nil _ _ _ _, World.ownsRow_nil _ _ _ _, (HB4.out.setCell (p := ⟨g1, 0, none⟩) (by show _ ≤ g1; omega) _).setCell (p := ⟨g1, 1, none⟩) (by show _ ≤ g1; omega) _⟩
  go_wp2_with (fail)
  refine (rlink_no (GAT.out _ HB3.out).2 HGD.out.RiseL (by omega) (by rw [HLK.out]; exact hLL)).mono ?_
  rintro e w4 ⟨rfl, hb⟩
  have hsz4 : g0 ≤ w3.heap.size := by have := HG03.out.lt; omega
  have HB4 := Lib.hid (HB3.out.trans (hb.mono hsz4))
  have HG14 := Lib.hid (HG13.out.below hb HG13.out.lt)
  have HG04 := Lib.hid (HG03.out.below hb HG03.out.lt)
  clear hb e0 e1 z0 k0 z1 k1
  obtain ⟨e0, _⟩ := HG04.out.c0
  obtain ⟨e1, _⟩ := HG04.out.c1
  obtain ⟨z0, k0⟩ := HG14.out.c0
  obtain ⟨z1, k1⟩ := HG14.out.c1
  by_cases hz : withinI x 4697254411347427328 = 0
  rotate_left
  · obtain ⟨R, hR⟩ : ∃ R, R = withinI x 4697254411347427328 := ⟨_, rfl⟩
    rw [← hR] at WEI HE hz
    clear hR
    have eqv : R = E := Eq.symm (by rw [HE.out, hA, hBB, hLL, if_neg (by decide), if_neg (by decide), if_neg hab, if_neg (by decide), if_neg hz])
    subst eqv
    have eqv : [] = NS := Eq.symm (by rw [HNS.out, if_neg hz])
    subst eqv
    have eqv : [] = LS := Eq.symm (by rw [HLS.out, if_neg hz])
    subst eqv
    go_wp2_with (go_at_call 32; refine (WEI.out _).mono ?_; rintro e w2' ⟨rfl, hww⟩; replace hww := hww.symm; subst hww)
    all_goals
      refine bodyPost_ret (ret_graph8 rfl _ _ _ rfl rfl ((HG14.out.s0 (.slice none 0 0)).s1 (.slice none 0 0))) rfl ?_
      have hge2 := HGE.out
      have hgg := HGG.out
      subst hge2
      exact ⟨none, 0, 0, none, 0, 0, rfl, World.ownsRow_nil _ _ _ _, World.ownsRow_nil _ _ _ _, (HB4.out.setCell (p := ⟨g1, 0, none⟩) (by show _ ≤ g1; omega) _).setCell (p := ⟨g1, 1, none⟩) (by show _ ≤ g1; omega) _⟩
  rw [hz] at WEI
  by_cases hlen : m = 4096
  · have eqv : 2 = E := Eq.symm (by rw [HE.out, hA, hBB, hLL, hml, if_neg (by decide), if_neg (by decide), if_neg hab, if_neg (by decide), if_pos hz, if_pos (by omega)])
    subst eqv
    have eqv : [] = NS := Eq.symm (by rw [HNS.out, if_neg (by decide)])
    subst eqv
    have eqv : [] = LS := Eq.symm (by rw [HLS.out, if_neg (by decide)])
    subst eqv
    have hle : ((m : Int) == 4096) = true := by rw [beq_iff_eq]; omega
    go_wp2_with (go_at_call 32; refine (WEI.out _).mono ?_; rintro e w2' ⟨rfl, hww⟩; replace hww := hww.symm; subst hww)
    all_goals
      refine bodyPost_ret (ret_graph8 rfl _ _ _ rfl rfl ((HG14.out.s0 (.slice none 0 0)).s1 (.slice none 0 0))) rfl ?_
      have hge2 := HGE.out
      have hgg := HGG.out
      subst hge2
      exact ⟨none, 0, 0, none, 0, 0, rfl, World.ownsRow_nil _ _ _ _, World.ownsRow_nil _ _ _ _, (HB4.out.setCell (p := ⟨g1, 0, none⟩) (by show _ ≤ g1; omega) _).setCell (p := ⟨g1, 1, none⟩) (by show _ ≤ g1; omega) _⟩
  have eqv : 0 = E := Eq.symm (by rw [HE.out, hA, hBB, hLL, hml, if_neg (by decide), if_neg (by decide), if_neg hab, if_neg (by decide), if_pos hz, if_neg (by omega)])
  subst eqv
  have eqv : ns = NS := Eq.symm (by rw [HNS.out, if_pos rfl])
  subst eqv
  have eqv : addL ls ⟨a, b, x, true⟩ = LS := Eq.symm (by rw [HLS.out, if_pos rfl])
  subst eqv
  have hle : ((m : Int) == 4096) = false := by rw [beq_eq_false_iff_ne]; omega
  have HNO := Lib.hid hLL
  have HTX := Lib.hid (Go.heap_alloc_new w4 (.cells #[.int .i64 a, .int .i64 b, .float .f64 x, .bool true] 54))
  have HG1x := Lib.hid (HG14.out.alloc (.cells #[.int .i64 a, .int .i64 b, .float .f64 x, .bool true] 54))
  have HG0x := Lib.hid (HG04.out.alloc (.cells #[.int .i64 a, .int .i64 b, .float .f64 x, .bool true] 54))
  have HBx := Lib.hid (HB4.out.alloc (by have := HG04.out.lt; omega) (.cells #[.int .i64 a, .int .i64 b, .float .f64 x, .bool true] 54))
  have HSX := Lib.hid (show w4.heap.size < (w4.alloc (.cells #[.int .i64 a, .int .i64 b, .float .f64 x, .bool true] 54)).heap.size by simp)
  have HGX4 := Lib.hid (show g1 < w4.heap.size from HG14.out.lt)
  obtain ⟨e0x, _⟩ := HG0x.out.c0
  obtain ⟨e1x, _⟩ := HG0x.out.c1
  clear hLL hA hBB hz
  go_wp2_with (go_at_call 32; refine (WEI.out _).mono ?_; rintro e w2' ⟨rfl, hww⟩; replace hww := hww.symm; subst hww)
  generalize w4.alloc (.cells #[.int .i64 a, .int .i64 b, .float .f64 x, .bool true] 54) = wx at *
  generalize w4.heap.size = XB at *
  refine (copy_any A A2 n c m c2 ns ls _ (GAT.out _ HBx.out).1 (GAT.out _ HBx.out).2 (by omega) (by omega)).mono ?_
  rintro e w5 ⟨C, d, C2, d2, rfl, o1, o2, hb⟩
  have hszx : g0 ≤ wx.heap.size := by have := HG0x.out.lt; omega
  have HB5 := Lib.hid (HBx.out.trans (hb.mono hszx))
  have HG15 := Lib.hid (HG1x.out.below hb HG1x.out.lt)
  have HG05 := Lib.hid (HG0x.out.below hb HG0x.out.lt)
  have HTX5 := Lib.hid ((hb.block XB HSX.out).trans HTX.out)
  have HLR := Lib.hid (own_mono o1 hszx)
  clear hb o1 o2 e0x e1x e0 e1 z0 k0 z1 k1
  have hX5 := Go.heap_alloc_new w5 (.cells #[.slice C n d, .slice none 0 0] 25)
  have HA0 := Lib.hid (HG05.out.alloc (.cells #[.slice C n d, .slice none 0 0] 25))
  have HA1 := Lib.hid (HG15.out.alloc (.cells #[.slice C n d, .slice none 0 0] 25))
  have HAX := Lib.hid ((Go.heap_alloc_old w5 (.cells #[.slice C n d, .slice none 0 0] 25) (lt_of_heap2 HTX5.out)).trans HTX5.out)
  have HAL := Lib.hid (World.ownsRow.alloc HLR.out (.cells #[.slice C n d, .slice none 0 0] 25))
  have HAB := Lib.hid (HB5.out.alloc (by have := HG05.out.lt; omega) (.cells #[.slice C n d, .slice none 0 0] 25))
  have HLT := Lib.hid (show g1 < w5.heap.size from HG15.out.lt)
  have HLXB := Lib.hid (show XB < w5.heap.size from lt_of_heap2 HTX5.out)
  have HLB := Lib.hid (fun k hk => (HLR.out.lt k hk).2)
  have hfl := run_field0 C C2 n d m d2
  go_wp2_with (fail)
  generalize w5.alloc (.cells #[.slice C n d, .slice none 0 0] 25) = wS at *
  generalize w5.heap.size = G at *
  have HXG := Lib.hid (show GB wS G (.slice C n d) (.slice none 0 0) from hX5)
  have hGs : G < wS.heap.size := HXG.out.lt
  have hg0G : g0 < G := by have := HLT.out; have := HGG.out; omega
  obtain ⟨T, hT⟩ : ∃ T : Lk, T = ⟨a, b, x, true⟩ := ⟨_, rfl⟩
  have HTE := Lib.hid hT
  rw [← hT] at HNO ⊢
  obtain ⟨cnt, hcnt⟩ : ∃ q, q = cntL ls T := ⟨_, rfl⟩
  have HCN := Lib.hid hcnt
  have hcle : cnt ≤ m := by rw [hcnt, ← hml]; exact List.countP_le_length
  have HCS := Lib.hid (fun (i : Nat) (hi : i < m) (hne : i ≠ cnt) => curL_step (ls := ls) (t := T) (i := i) (by omega) (by rw [← hcnt]; exact hne))
  have HCA := Lib.hid (fun (hi : cnt < m) => (by have q := curL_at (ls := ls) (t := T) (by rw [← hcnt]; omega); rw [← hcnt] at q; exact q : curL ls T (cnt + 1) = (curL ls T cnt ++ [T]) ++ [lkA ls cnt]))
  have HLO := Lib.hid (fun (i : Nat) (hi : i < m) (h : i < cnt) => (by have q := lk_lo HGD.out (t := T) (i := i) (by omega) (by rw [← hcnt]; exact h); rw [lkLt_iff, hT] at q; exact q : (lkA ls i).a < a ∨ ((lkA ls i).a = a ∧ (lkA ls i).b < b)))
  have HHI := Lib.hid (fun (i : Nat) (hi : i < m) (h : cnt ≤ i) => (by have q := lk_hi HGD.out (t := T) HNO.out (i := i) (by omega) (by rw [← hcnt]; exact h); rw [lkLt_iff, hT] at q; exact q : a < (lkA ls i).a ∨ (a = (lkA ls i).a ∧ b < (lkA ls i).b)))
  have HEN := Lib.hid (show (cnt < m → curL ls T m = addL ls T) ∧ (cnt = m → curL ls T m ++ [T] = addL ls T) by rw [hcnt, ← hml]; exact curL_end)
  have HTC := Lib.hid (show lkC T = [.int .i64 a, .int .i64 b, .float .f64 x, .bool true] by rw [hT]; rfl)
  clear hcnt hT hX5 HG15 HG05 HB5 HLR HG14 HG04 HB4 HG13 HG03 HB3 HG12 HG02 HB2 HG0 HG1 HB1 HTX5 HTX HG1x HG0x HBx
  go_loopw [13, 14] (fun pv iv wr => ∃ (i k : Nat) (v : Value), i ≤ m ∧ iv = .int .i64 i ∧ pv = .bool (decide (cnt < i)) ∧ Hid (k = (curL ls T i).length) ∧ Hid (wr.ownsRow (G + 1) 54 4 v k ((curL ls T i).flatMap lkC)) ∧ Hid (GB wr G (.slice C n d) v) ∧ Hid (Below G wS wr)) (fun _ iv _ => m - (intOf iv).toNat)
  case atStart => exact ⟨0, 0, _, Nat.zero_le _, rfl, by simp, Lib.hid (by unfold curL; rw [if_neg (by omega)]; simp), Lib.hid (by unfold curL; rw [if_neg (by omega)]; simpa using World.ownsRow_nil _ _ _ _), HXG, Lib.hid (Below.refl _ _)⟩
  case round =>
    obtain ⟨i, k, v, hi, rfl, rfl, HK, HOW0, HCG0, HB0⟩ := hrel
    obtain ⟨wa, rfl⟩ : ∃ wa : World, wa = wr := ⟨_, rfl⟩
    have HC0 := Lib.hid (HA0.out.below HB0.out hg0G)
    obtain ⟨e00, _⟩ := HC0.out.c0
    obtain ⟨e01, _⟩ := HC0.out.c1
    have hkl : k ≤ 4097 := by have := curL_len (ls := ls) (t := T) (i := i); have := HK.out; omega
    by_cases hin : i < m
    · obtain ⟨p, off, rfl, hbl, hc⟩ := HL.out.at (by omega)
      obtain ⟨c0, c1, c2', c3⟩ := hc i hin
      have hblg : p < g0 := by have := HGE.out; omega
      have HWA := Lib.hid (HAB.out.trans (HB0.out.mono (Nat.le_of_lt hg0G)))
      have d0 := (HWA.out.cell (p := ⟨p, off + i * 4, none⟩) hblg).trans c0
      have d1 := (HWA.out.cell (p := ⟨p, off + (i * 4 + 1), none⟩) hblg).trans c1
      have d2' := (HWA.out.cell (p := ⟨p, off + (i * 4 + 2), none⟩) hblg).trans c2'
      have d3 := (HWA.out.cell (p := ⟨p, off + (i * 4 + 3), none⟩) hblg).trans c3
      rw [← Nat.add_assoc] at d1 d2' d3
      have HS0 := Lib.hid (HCS.out i hin)
      have HL0 := Lib.hid (HLO.out i hin)
      have HH0 := Lib.hid (HHI.out i hin)
      obtain ⟨y, hy⟩ : ∃ y, y = lkA ls i := ⟨_, rfl⟩
      rw [← hy] at d0 d1 d2' d3 HS0 HL0 HH0
      have HXX := Lib.hid hy
      obtain ⟨xa, xb, xw, xu⟩ := y
      clear hc c0 c1 c2' c3 hy
      have HL15 := Lib.hid (Go.heap_alloc_new wa (.cells #[.int .i64 xa, .int .i64 xb, .float .f64 xw, .bool xu] 54))
      have HOW := Lib.hid (World.ownsRow.alloc HOW0.out (.cells #[.int .i64 xa, .int .i64 xb, .float .f64 xw, .bool xu] 54))
      have HCG := Lib.hid (HCG0.out.alloc (.cells #[.int .i64 xa, .int .i64 xb, .float .f64 xw, .bool xu] 54))
      have HB := Lib.hid (HB0.out.alloc (Nat.le_of_lt HCG0.out.lt) (.cells #[.int .i64 xa, .int .i64 xb, .float .f64 xw, .bool xu] 54))
      have HFR := Lib.hid (own_fresh HOW0.out)
      have HGA := Lib.hid (show G < wa.heap.size from HCG0.out.lt)
      have hsza : (wa.alloc (.cells #[.int .i64 xa, .int .i64 xb, .float .f64 xw, .bool xu] 54)).heap.size = wa.heap.size + 1 := by simp
      go_upto_region 21 with fail
      generalize wa.alloc (.cells #[.int .i64 xa, .int .i64 xb, .float .f64 xw, .bool xu] 54) = wl at *
      generalize wa.heap.size = L15 at *
      have HSZ := Lib.hid hsza
      clear e00 e01 d0 d1 d2' d3 hsza
      obtain ⟨e20, f20⟩ := HCG.out.c1
      have q0 := ((Go.cell_of_row wl L15 0 _ _ _ HL15.out).trans rfl : wl.cell? ⟨L15, 0, none⟩ = some (.int .i64 xa))
      have q1 := ((Go.cell_of_row wl L15 1 _ _ _ HL15.out).trans rfl : wl.cell? ⟨L15, 1, none⟩ = some (.int .i64 xb))
      have q2 := ((Go.cell_of_row wl L15 2 _ _ _ HL15.out).trans rfl : wl.cell? ⟨L15, 2, none⟩ = some (.float .f64 xw))
      have q3 := ((Go.cell_of_row wl L15 3 _ _ _ HL15.out).trans rfl : wl.cell? ⟨L15, 3, none⟩ = some (.bool xu))
      have HQ := Lib.hid (And.intro q0 (And.intro q1 (And.intro q2 q3)))
      have HBS : Hid (G + 1 ≤ wl.heap.size) := Lib.hid HCG.out.lt
      by_cases hie : i = cnt
      · subst hie
        have hdf : decide (i < i) = false := by simp
        have HA2 := Lib.hid (HCA.out hin)
        rw [← HXX.out] at HA2
        have HXC := Lib.hid ((HB.out.block XB HLXB.out).trans HAX.out)
        have t0 := ((Go.cell_of_row wl XB 0 _ _ _ HXC.out).trans rfl : wl.cell? ⟨XB, 0, none⟩ = some (.int .i64 a))
        have t1 := ((Go.cell_of_row wl XB 1 _ _ _ HXC.out).trans rfl : wl.cell? ⟨XB, 1, none⟩ = some (.int .i64 b))
        have t2 := ((Go.cell_of_row wl XB 2 _ _ _ HXC.out).trans rfl : wl.cell? ⟨XB, 2, none⟩ = some (.float .f64 x))
        have t3 := ((Go.cell_of_row wl XB 3 _ _ _ HXC.out).trans rfl : wl.cell? ⟨XB, 3, none⟩ = some (.bool true))
        have hmore := HH0.out (Nat.le_refl _)
        rw [hdf]
        rcases hmore with hmo | ⟨hmo, hmo2⟩
        · have g1' : a < xa := hmo
          have g2' : decide (xa > a) = true := by simp; exact hmo
          go_wp2_with (first | (at_builtin; refine wpList_append_own _ rfl (.tmp 94) (.tmp 96) 23 rfl (G + 1) 54 iL (.agg #[.int .i64 0, .int .i64 0, .float .f64 0, .bool false]) 4 32 Try.underlying23 hiL hzL0 hzL1 hzL2 rfl (by decide) v k ((curL ls T i).flatMap lkC) rfl (World.ownsRow.alloc HOW.out _) ⟨wl.heap.size, 0, none⟩ 1 1 [.int .i64 a, .int .i64 b, .float .f64 x, .bool true] rfl rfl (new_cells wl [.int .i64 a, .int .i64 b, .float .f64 x, .bool true] _) (oneL ⟨a, b, x, true⟩) (by unfold maxLen; omega) (by omega) (by have := HBS.out; simp; omega) ?_; intro v1 w6 hown1 hgrow1 _; obtain ⟨A1, d1', rfl⟩ := own_form hown1; have hz := (HCG.out.alloc _).grown hgrow1 (fun q hq => (HOW.out.lt q hq).1) (Nat.lt_succ_self G); have hz0 := hz.c1.1; have hz1 := hz.c1.2; have HZ := Lib.hid (hz.s1 (.slice A1 (k + 1) d1')); have HO := Lib.hid (show (w6.setCell ⟨G, 1, none⟩ (.slice A1 (k + 1) d1')).ownsRow (G + 1) 54 4 (.slice A1 (k + 1) d1') (k + 1) ((curL ls T i ++ [T]).flatMap lkC) from own_set (by have q := hown1; rw [List.flatMap_append]; simp only [List.flatMap_cons, List.flatMap_nil, List.append_nil, HTC.out]; exact q) (Nat.lt_succ_self G)); have HB6 := Lib.hid (((HB.out.alloc (Nat.le_of_lt HCG.out.lt) _).grown hgrow1 (by have := HBS.out; simp; omega) (fun q hq => by have := (HOW.out.lt q hq).1; omega)).setCell (p := ⟨G, 1, none⟩) (Nat.le_refl _) (.slice A1 (k + 1) d1')); have HBS6 := Lib.hid (show G + 1 ≤ (w6.setCell ⟨G, 1, none⟩ (.slice A1 (k + 1) d1')).heap.size from HZ.out.lt); have s0 := cell_other (keep_grown (alloc_keep HQ.out.1 _) hgrow1 HFR.out) (show (⟨L15, 0, none⟩ : Addr).block ≠ (⟨G, 1, none⟩ : Addr).block by show L15 ≠ G; have := HGA.out; omega) (u := .slice A1 (k + 1) d1'); have s1 := cell_other (keep_grown (alloc_keep HQ.out.2.1 _) hgrow1 HFR.out) (show (⟨L15, 1, none⟩ : Addr).block ≠ (⟨G, 1, none⟩ : Addr).block by show L15 ≠ G; have := HGA.out; omega) (u := .slice A1 (k + 1) d1'); have s2 := cell_other (keep_grown (alloc_keep HQ.out.2.2.1 _) hgrow1 HFR.out) (show (⟨L15, 2, none⟩ : Addr).block ≠ (⟨G, 1, none⟩ : Addr).block by show L15 ≠ G; have := HGA.out; omega) (u := .slice A1 (k + 1) d1'); have s3 := cell_other (keep_grown (alloc_keep HQ.out.2.2.2 _) hgrow1 HFR.out) (show (⟨L15, 3, none⟩ : Addr).block ≠ (⟨G, 1, none⟩ : Addr).block by show L15 ≠ G; have := HGA.out; omega) (u := .slice A1 (k + 1) d1'); have s4 := HZ.out.c1.1; have s5 := HZ.out.c1.2; clear hz hown1 hgrow1) | (at_builtin; refine wpList_append_one rfl (.tmp 100) (.tmp 102) 23 rfl (G + 1) 54 iL (.agg #[.int .i64 0, .int .i64 0, .float .f64 0, .bool false]) 4 32 Try.underlying23 hiL hzL0 hzL1 hzL2 rfl (by decide) (by decide) (.slice A1 (k + 1) d1') (k + 1) ((curL ls T i ++ [T]).flatMap lkC) rfl HO.out (lkC ⟨xa, xb, xw, xu⟩) rfl (oneL _) 54 1 (by simp [Act.eval]) (by omega) HBS6.out ?_; intro v9 w9 hown9 hbel9; obtain ⟨A9, d9, rfl⟩ := own_form hown9; have hz9 := HZ.out.below (hbel9 (G + 1) _ (Below.refl (G + 1) _) (Nat.le_refl _)) (Nat.lt_succ_self G); have y0 := hz9.c1.1; have y1 := hz9.c1.2; have HZ9 := Lib.hid hz9; have HO9 := Lib.hid hown9; have HB9 := Lib.hid (hbel9 G _ HB6.out (Nat.le_succ G)); clear hz9 hown9 hbel9))
          clear y0 y1 hz0 hz1 s0 s1 s2 s3 s4 s5
          go_roundw
          case rel => exact ⟨i + 1, k + 1 + 1, _, by omega, by go_num, by simp, Lib.hid (by rw [HA2.out, List.length_append, List.length_append, ← HK.out]; rfl), Lib.hid (by rw [HA2.out, List.flatMap_append (xs := curL ls T i ++ [T])]; exact own_set (by simpa using HO9.out) (Nat.lt_succ_self G)), Lib.hid (HZ9.out.s1 _), Lib.hid (HB9.out.setCell (p := ⟨G, 1, none⟩) (Nat.le_refl _) _)⟩
          case measure => simp [intOf]; omega
        · have hmo' : a = xa := hmo
          have g1' : ¬ a < xa := by omega
          have g2' : decide (xa > a) = false := by simp; omega
          have g3' : (xa == a) = true := by rw [beq_iff_eq]; exact hmo'.symm
          have g4' : b < xb := hmo2
          have g5' : decide (xb > b) = true := by simp; exact hmo2
          clear hmo hmo'
          go_wp2_with (first | (at_builtin; refine wpList_append_own _ rfl (.tmp 94) (.tmp 96) 23 rfl (G + 1) 54 iL (.agg #[.int .i64 0, .int .i64 0, .float .f64 0, .bool false]) 4 32 Try.underlying23 hiL hzL0 hzL1 hzL2 rfl (by decide) v k ((curL ls T i).flatMap lkC) rfl (World.ownsRow.alloc HOW.out _) ⟨wl.heap.size, 0, none⟩ 1 1 [.int .i64 a, .int .i64 b, .float .f64 x, .bool true] rfl rfl (new_cells wl [.int .i64 a, .int .i64 b, .float .f64 x, .bool true] _) (oneL ⟨a, b, x, true⟩) (by unfold maxLen; omega) (by omega) (by have := HBS.out; simp; omega) ?_; intro v1 w6 hown1 hgrow1 _; obtain ⟨A1, d1', rfl⟩ := own_form hown1; have hz := (HCG.out.alloc _).grown hgrow1 (fun q hq => (HOW.out.lt q hq).1) (Nat.lt_succ_self G); have hz0 := hz.c1.1; have hz1 := hz.c1.2; have HZ := Lib.hid (hz.s1 (.slice A1 (k + 1) d1')); have HO := Lib.hid (show (w6.setCell ⟨G, 1, none⟩ (.slice A1 (k + 1) d1')).ownsRow (G + 1) 54 4 (.slice A1 (k + 1) d1') (k + 1) ((curL ls T i ++ [T]).flatMap lkC) from own_set (by have q := hown1; rw [List.flatMap_append]; simp only [List.flatMap_cons, List.flatMap_nil, List.append_nil, HTC.out]; exact q) (Nat.lt_succ_self G)); have HB6 := Lib.hid (((HB.out.alloc (Nat.le_of_lt HCG.out.lt) _).grown hgrow1 (by have := HBS.out; simp; omega) (fun q hq => by have := (HOW.out.lt q hq).1; omega)).setCell (p := ⟨G, 1, none⟩) (Nat.le_refl _) (.slice A1 (k + 1) d1')); have HBS6 := Lib.hid (show G + 1 ≤ (w6.setCell ⟨G, 1, none⟩ (.slice A1 (k + 1) d1')).heap.size from HZ.out.lt); have s0 := cell_other (keep_grown (alloc_keep HQ.out.1 _) hgrow1 HFR.out) (show (⟨L15, 0, none⟩ : Addr).block ≠ (⟨G, 1, none⟩ : Addr).block by show L15 ≠ G; have := HGA.out; omega) (u := .slice A1 (k + 1) d1'); have s1 := cell_other (keep_grown (alloc_keep HQ.out.2.1 _) hgrow1 HFR.out) (show (⟨L15, 1, none⟩ : Addr).block ≠ (⟨G, 1, none⟩ : Addr).block by show L15 ≠ G; have := HGA.out; omega) (u := .slice A1 (k + 1) d1'); have s2 := cell_other (keep_grown (alloc_keep HQ.out.2.2.1 _) hgrow1 HFR.out) (show (⟨L15, 2, none⟩ : Addr).block ≠ (⟨G, 1, none⟩ : Addr).block by show L15 ≠ G; have := HGA.out; omega) (u := .slice A1 (k + 1) d1'); have s3 := cell_other (keep_grown (alloc_keep HQ.out.2.2.2 _) hgrow1 HFR.out) (show (⟨L15, 3, none⟩ : Addr).block ≠ (⟨G, 1, none⟩ : Addr).block by show L15 ≠ G; have := HGA.out; omega) (u := .slice A1 (k + 1) d1'); have s4 := HZ.out.c1.1; have s5 := HZ.out.c1.2; clear hz hown1 hgrow1) | (at_builtin; refine wpList_append_one rfl (.tmp 100) (.tmp 102) 23 rfl (G + 1) 54 iL (.agg #[.int .i64 0, .int .i64 0, .float .f64 0, .bool false]) 4 32 Try.underlying23 hiL hzL0 hzL1 hzL2 rfl (by decide) (by decide) (.slice A1 (k + 1) d1') (k + 1) ((curL ls T i ++ [T]).flatMap lkC) rfl HO.out (lkC ⟨xa, xb, xw, xu⟩) rfl (oneL _) 54 1 (by simp [Act.eval]) (by omega) HBS6.out ?_; intro v9 w9 hown9 hbel9; obtain ⟨A9, d9, rfl⟩ := own_form hown9; have hz9 := HZ.out.below (hbel9 (G + 1) _ (Below.refl (G + 1) _) (Nat.le_refl _)) (Nat.lt_succ_self G); have y0 := hz9.c1.1; have y1 := hz9.c1.2; have HZ9 := Lib.hid hz9; have HO9 := Lib.hid hown9; have HB9 := Lib.hid (hbel9 G _ HB6.out (Nat.le_succ G)); clear hz9 hown9 hbel9))
          clear y0 y1 hz0 hz1 s0 s1 s2 s3 s4 s5
          go_roundw
          case rel => exact ⟨i + 1, k + 1 + 1, _, by omega, by go_num, by simp, Lib.hid (by rw [HA2.out, List.length_append, List.length_append, ← HK.out]; rfl), Lib.hid (by rw [HA2.out, List.flatMap_append (xs := curL ls T i ++ [T])]; exact own_set (by simpa using HO9.out) (Nat.lt_succ_self G)), Lib.hid (HZ9.out.s1 _), Lib.hid (HB9.out.setCell (p := ⟨G, 1, none⟩) (Nat.le_refl _) _)⟩
          case measure => simp [intOf]; omega
      · have HST := Lib.hid (HS0.out hie)
        rcases Nat.lt_or_ge cnt i with hlt | hge
        · have hdf : decide (cnt < i) = true := by simp; exact hlt
          rw [hdf]
          go_wp2_with (at_builtin; refine wpList_append_one rfl (.tmp 100) (.tmp 102) 23 rfl (G + 1) 54 iL (.agg #[.int .i64 0, .int .i64 0, .float .f64 0, .bool false]) 4 32 Try.underlying23 hiL hzL0 hzL1 hzL2 rfl (by decide) (by decide) v k ((curL ls T i).flatMap lkC) rfl HOW.out (lkC ⟨xa, xb, xw, xu⟩) rfl (oneL _) 54 1 (by simp [Act.eval]) (by omega) HBS.out ?_; intro v9 w9 hown9 hbel9; obtain ⟨A9, d9, rfl⟩ := own_form hown9; have hz9 := HCG.out.below (hbel9 (G + 1) _ (Below.refl (G + 1) _) (Nat.le_refl _)) (Nat.lt_succ_self G); have y0 := hz9.c1.1; have y1 := hz9.c1.2; have HZ9 := Lib.hid hz9; have HO9 := Lib.hid hown9; have HB9 := Lib.hid (hbel9 G _ HB.out (Nat.le_succ G)); clear hz9 hown9 hbel9)
          clear y0 y1
          go_roundw
          case rel => exact ⟨i + 1, k + 1, _, by omega, by go_num, by simp; omega, Lib.hid (by rw [HST.out, List.length_append, ← HK.out]; rfl), Lib.hid (by rw [HST.out, List.flatMap_append]; exact own_set (by simpa using HO9.out) (Nat.lt_succ_self G)), Lib.hid (HZ9.out.s1 _), Lib.hid (HB9.out.setCell (p := ⟨G, 1, none⟩) (Nat.le_refl _) _)⟩
          case measure => simp [intOf]; omega
        · have hdf : decide (cnt < i) = false := by simp; omega
          have hless := HL0.out (by omega)
          rw [hdf]
          rcases hless with hmo | ⟨hmo, hmo2⟩
          · have hmo' : xa < a := hmo
            have g1' : ¬ a < xa := by omega
            have g2' : decide (xa > a) = false := by simp; omega
            have g3' : (xa == a) = false := by rw [beq_eq_false_iff_ne]; omega
            go_wp2_with (at_builtin; refine wpList_append_one rfl (.tmp 100) (.tmp 102) 23 rfl (G + 1) 54 iL (.agg #[.int .i64 0, .int .i64 0, .float .f64 0, .bool false]) 4 32 Try.underlying23 hiL hzL0 hzL1 hzL2 rfl (by decide) (by decide) v k ((curL ls T i).flatMap lkC) rfl HOW.out (lkC ⟨xa, xb, xw, xu⟩) rfl (oneL _) 54 1 (by simp [Act.eval]) (by omega) HBS.out ?_; intro v9 w9 hown9 hbel9; obtain ⟨A9, d9, rfl⟩ := own_form hown9; have hz9 := HCG.out.below (hbel9 (G + 1) _ (Below.refl (G + 1) _) (Nat.le_refl _)) (Nat.lt_succ_self G); have y0 := hz9.c1.1; have y1 := hz9.c1.2; have HZ9 := Lib.hid hz9; have HO9 := Lib.hid hown9; have HB9 := Lib.hid (hbel9 G _ HB.out (Nat.le_succ G)); clear hz9 hown9 hbel9)
            clear y0 y1
            go_roundw
            case rel => exact ⟨i + 1, k + 1, _, by omega, by go_num, by simp; omega, Lib.hid (by rw [HST.out, List.length_append, ← HK.out]; rfl), Lib.hid (by rw [HST.out, List.flatMap_append]; exact own_set (by simpa using HO9.out) (Nat.lt_succ_self G)), Lib.hid (HZ9.out.s1 _), Lib.hid (HB9.out.setCell (p := ⟨G, 1, none⟩) (Nat.le_refl _) _)⟩
            case measure => simp [intOf]; omega
          · have hmo' : xa = a := hmo
            have hmo2' : xb < b := hmo2
            have g1' : ¬ a < xa := by omega
            have g2' : decide (xa > a) = false := by simp; omega
            have g3' : (xa == a) = true := by rw [beq_iff_eq]; exact hmo'
            have g4' : ¬ b < xb := by omega
            have g5' : decide (xb > b) = false := by simp; omega
            clear hmo hmo'
            go_wp2_with (at_builtin; refine wpList_append_one rfl (.tmp 100) (.tmp 102) 23 rfl (G + 1) 54 iL (.agg #[.int .i64 0, .int .i64 0, .float .f64 0, .bool false]) 4 32 Try.underlying23 hiL hzL0 hzL1 hzL2 rfl (by decide) (by decide) v k ((curL ls T i).flatMap lkC) rfl HOW.out (lkC ⟨xa, xb, xw, xu⟩) rfl (oneL _) 54 1 (by simp [Act.eval]) (by omega) HBS.out ?_; intro v9 w9 hown9 hbel9; obtain ⟨A9, d9, rfl⟩ := own_form hown9; have hz9 := HCG.out.below (hbel9 (G + 1) _ (Below.refl (G + 1) _) (Nat.le_refl _)) (Nat.lt_succ_self G); have y0 := hz9.c1.1; have y1 := hz9.c1.2; have HZ9 := Lib.hid hz9; have HO9 := Lib.hid hown9; have HB9 := Lib.hid (hbel9 G _ HB.out (Nat.le_succ G)); clear hz9 hown9 hbel9)
            clear y0 y1
            go_roundw
            case rel => exact ⟨i + 1, k + 1, _, by omega, by go_num, by simp; omega, Lib.hid (by rw [HST.out, List.length_append, ← HK.out]; rfl), Lib.hid (by rw [HST.out, List.flatMap_append]; exact own_set (by simpa using HO9.out) (Nat.lt_succ_self G)), Lib.hid (HZ9.out.s1 _), Lib.hid (HB9.out.setCell (p := ⟨G, 1, none⟩) (Nat.le_refl _) _)⟩
            case measure => simp [intOf]; omega
    · obtain rfl : i = m := by omega
      have hg1G : g1 < G := HLT.out
      have HC1 := Lib.hid (HA1.out.below HB0.out hg1G)
      have HLX := Lib.hid (own_keep HAL.out HB0.out HLB.out)
      have HBF := Lib.hid (HAB.out.trans (HB0.out.mono (Nat.le_of_lt hg0G)))
      obtain ⟨e20, f20⟩ := HCG0.out.c1
      obtain ⟨e21, f21⟩ := HCG0.out.c0
      by_cases hpt : cnt < i
      · have hdf : decide (cnt < i) = true := by simp; exact hpt
        have HF := Lib.hid (HEN.out.1 hpt)
        obtain ⟨z0, k0⟩ := HC1.out.c0
        obtain ⟨z1, k1⟩ := HC1.out.c1
        obtain ⟨A1, d1', rfl⟩ := own_form HOW0.out
        rw [hdf]
        go_wp2_with (fail)
        refine bodyPost_ret (ret_graph8 rfl _ _ _ rfl rfl ((HC1.out.s0 (.slice C n d)).s1 (.slice A1 k d1'))) rfl ?_
        have hge2 := HGE.out
        have hgg := HGG.out
        subst hge2
        exact ⟨C, n, d, A1, k, d1', rfl, own_set2 (own_set2 HLX.out (own_neG HLX.out HC1.out (by decide))) (own_neG HLX.out HC1.out (by decide)), by have q := HOW0.out; rw [HF.out, HTE.out] at q; exact own_mono (own_set (own_set q (by omega)) (by omega)) (by omega), (HBF.out.setCell (p := ⟨g1, 0, none⟩) (by show _ ≤ g1; omega) _).setCell (p := ⟨g1, 1, none⟩) (by show _ ≤ g1; omega) _⟩
      · have hdf : decide (cnt < i) = false := by simp; omega
        have HF := Lib.hid (HEN.out.2 (by omega))
        have HBS : Hid (G + 1 ≤ wa.heap.size) := Lib.hid (HCG0.out.lt)
        have HXC := Lib.hid ((HB0.out.block XB HLXB.out).trans HAX.out)
        have t0 := ((Go.cell_of_row wa XB 0 _ _ _ HXC.out).trans rfl : wa.cell? ⟨XB, 0, none⟩ = some (.int .i64 a))
        have t1 := ((Go.cell_of_row wa XB 1 _ _ _ HXC.out).trans rfl : wa.cell? ⟨XB, 1, none⟩ = some (.int .i64 b))
        have t2 := ((Go.cell_of_row wa XB 2 _ _ _ HXC.out).trans rfl : wa.cell? ⟨XB, 2, none⟩ = some (.float .f64 x))
        have t3 := ((Go.cell_of_row wa XB 3 _ _ _ HXC.out).trans rfl : wa.cell? ⟨XB, 3, none⟩ = some (.bool true))
        rw [hdf]
        go_wp2_with (at_builtin; refine wpList_append_one rfl (.tmp 108) (.tmp 110) 23 rfl (G + 1) 54 iL (.agg #[.int .i64 0, .int .i64 0, .float .f64 0, .bool false]) 4 32 Try.underlying23 hiL hzL0 hzL1 hzL2 rfl (by decide) (by decide) v k ((curL ls T i).flatMap lkC) rfl HOW0.out [.int .i64 a, .int .i64 b, .float .f64 x, .bool true] rfl (oneL ⟨a, b, x, true⟩) 54 1 (by simp [Act.eval]) (by omega) HBS.out ?_; intro v1 w6 hown1 hbel1; obtain ⟨A1, d1', rfl⟩ := own_form hown1; have hz := HCG0.out.below (hbel1 (G + 1) _ (Below.refl (G + 1) _) (Nat.le_refl _)) (Nat.lt_succ_self G); have hz0 := hz.c1.1; have hz1 := hz.c1.2; have hz2 := hz.c0.1; have HZ := Lib.hid hz; have HO := Lib.hid hown1; have HBL := Lib.hid hbel1; have HBW := Lib.hid (hbel1 (G + 1) _ (Below.refl (G + 1) _) (Nat.le_refl _)); have HC6 := Lib.hid (HC1.out.below HBW.out (by omega)); have HLY := Lib.hid (own_keep HLX.out HBW.out (fun q hq => by have := HLB.out q hq; omega)); obtain ⟨z0, k0⟩ := HC6.out.c0; obtain ⟨z1, k1⟩ := HC6.out.c1; clear hz hown1 hbel1)
        refine bodyPost_ret (ret_graph8 rfl _ _ _ rfl rfl (((HC6.out.set (show g1 ≠ G by omega) 1 (.slice A1 (k + 1) d1')).s0 (.slice C n d)).s1 (.slice A1 (k + 1) d1'))) rfl ?_
        have hge2 := HGE.out
        have hgg := HGG.out
        subst hge2
        exact ⟨C, n, d, A1, k + 1, d1', rfl, own_set2 (own_set2 (own_set2 HLY.out (own_neG HLY.out HZ.out (by decide))) (own_neG HLY.out HC6.out (by decide))) (own_neG HLY.out HC6.out (by decide)), by have q := HO.out; rw [show (curL ls T i).flatMap lkC ++ [.int .i64 a, .int .i64 b, .float .f64 x, .bool true] = (addL ls T).flatMap lkC by rw [← HF.out, List.flatMap_append, ← HTC.out]; simp, HTE.out] at q; exact own_mono (own_set (own_set (own_set q (by omega)) (by omega)) (by omega)) (by omega), ((((HBF.out.trans ((HBL.out _ _ (Below.refl _ wa) (by omega)).mono (Nat.le_refl _)))).setCell (p := ⟨G, 1, none⟩) (by show _ ≤ G; omega) _).setCell (p := ⟨g1, 0, none⟩) (by show _ ≤ g1; omega) _).setCell (p := ⟨g1, 1, none⟩) (by show _ ≤ g1; omega) _⟩

end Go.Proofs.Ytgmljlgoaifneaa
