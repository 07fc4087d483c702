/- The walk of the reference's added. Conditions: as each theorem's hypotheses say. -/
import Derived.Test.YtgmljlgoaifneaaGra
import Derived.Test.YtgmljlgoaifneaaGax
import Derived.Test.YtgmljlgoaifneaaGen
import Derived.Test.YtgmljlgoaifneaaGcp
import Derived.Deep.RegionLaw
import Derived.Deep.AppendLies
namespace Go.Proofs.Ytgmljlgoaifneaa
open Go.RowKit Flt Go.Mem Go.Lib
set_option linter.unusedVariables false

attribute [local go_sem] run_store_float
set_option maxHeartbeats 3200000
set_option maxRecDepth 100000
theorem run_field1 (A A2 : Option Addr) (n c m c2 : Nat) (w : World) : (Instr.field 25 (.agg #[.slice A n c, .slice A2 m c2]) 1).run Try.prog w = .ok (.slice A2 m c2) w := by
  unfold Instr.field
  simp [run_underlying Try.underlying25, asAgg, part]
theorem run_field0 (A A2 : Option Addr) (n c m c2 : Nat) (w : World) : (Instr.field 25 (.agg #[.slice A n c, .slice A2 m c2]) 0).run Try.prog w = .ok (.slice A n c) w := by
  unfold Instr.field
  simp [run_underlying Try.underlying25, asAgg, part]
/-- the first i routers, the new one among them once its place is passed -/
def curN (ns : List Nd) (a : Int) (i : Nat) : List Nd := if cntN ns a < i then ns.take (cntN ns a) ++ [(⟨a, true, false⟩ : Nd)] ++ (ns.take i).drop (cntN ns a) else ns.take i
theorem curN_step {ns : List Nd} {a : Int} {i : Nat} (hi : i < ns.length) (hne : i ≠ cntN ns a) : curN ns a (i + 1) = curN ns a i ++ [ndA ns i] := by
  unfold curN
  rcases Nat.lt_or_ge (cntN ns a) i with h | h
  · rw [if_pos h, if_pos (by omega), take_nd hi, List.drop_append_of_le_length (by rw [List.length_take]; omega)]
    simp
  · rw [if_neg (by omega), if_neg (by omega), take_nd hi]
theorem curN_at {ns : List Nd} {a : Int} (hi : cntN ns a < ns.length) : curN ns a (cntN ns a + 1) = (curN ns a (cntN ns a) ++ [(⟨a, true, false⟩ : Nd)]) ++ [ndA ns (cntN ns a)] := by
  unfold curN
  rw [if_pos (by omega), if_neg (by omega), take_nd hi, List.drop_append_of_le_length (by rw [List.length_take]; omega), List.drop_of_length_le (by rw [List.length_take]; omega)]
  simp
theorem curN_end {ns : List Nd} {a : Int} : (cntN ns a < ns.length → curN ns a ns.length = addN ns a) ∧ (cntN ns a = ns.length → curN ns a ns.length ++ [(⟨a, true, false⟩ : Nd)] = addN ns a) := by
  unfold curN addN
  constructor
  · intro h
    rw [if_pos h, List.take_of_length_le (i := ns.length) (Nat.le_refl _)]
  · intro h
    rw [if_neg (by omega), h, List.take_of_length_le (i := ns.length) (Nat.le_refl _), List.drop_of_length_le (Nat.le_refl _), List.append_nil]
theorem curN_len {ns : List Nd} {a : Int} {i : Nat} : (curN ns a i).length ≤ i + 1 := by
  unfold curN; split
  · simp only [List.length_append, List.length_take, List.length_drop, List.length_cons, List.length_nil]; omega
  · simp only [List.length_take]; omega
theorem id_lt {ns : List Nd} {ls : List Lk} (g : Good ns ls) {a : Int} {i : Nat} (hi : i < ns.length) (h : i < cntN ns a) : (ndA ns i).id < a := by
  have := (cut_nd (a := a) g.rise).1 (ns[i]) (by
    have e : (ns.take (cntN ns a))[i]'(by rw [List.length_take]; omega) = ns[i] := List.getElem_take
    rw [← e]; exact List.getElem_mem _)
  rw [ndA_get hi]; exact this
theorem id_gt {ns : List Nd} {ls : List Lk} (g : Good ns ls) {a : Int} (hno : hasN ns a = false) {i : Nat} (hi : i < ns.length) (h : cntN ns a ≤ i) : a < (ndA ns i).id := by
  have h1 := (cut_nd (a := a) g.rise).2 (ns[i]) (by
    have e : (ns.drop (cntN ns a))[i - cntN ns a]'(by rw [List.length_drop]; omega) = ns[i] := by rw [List.getElem_drop]; congr 1; omega
    rw [← e]; exact List.getElem_mem _)
  have h2 := hasN_no hno (ns[i]) (List.getElem_mem _)
  rw [ndA_get hi]; omega
set_option maxHeartbeats 6400000 in
theorem added_any (A A2 : Option Addr) (n c m c2 : Nat) (a : Int) (ns : List Nd) (ls : List Lk) (w : World) (hg : GN w w.heap.size A n ns) (hl : GL w w.heap.size A2 m ls) (hG : Good ns ls) (E : Int) (NS : List Nd) (LS : List Lk)
    (hE : E = if idOk a = false then 70 else if hasN ns a = true then 72 else if 256 ≤ ns.length then 2 else 0) (hNS : NS = if E = 0 then addN ns a else []) (hLS : LS = if E = 0 then ls else []) :
    Calls Try.prog 37 #[.agg #[.slice A n c, .slice A2 m c2], .int .i64 a] w (QPost E NS LS w) := by
  obtain ⟨iN, hiN, hzN0, hzN1, hzN2⟩ := info_partsG infoND
  have HN := Lib.hid hg
  have HL := Lib.hid hl
  have HGD := Lib.hid hG
  have HE := Lib.hid hE
  have HNS := Lib.hid hNS
  have HLS := Lib.hid hLS
  have hnl : ns.length = n := hg.1
  have hml : ls.length = m := hl.1
  have hn256 : n ≤ 256 := by rw [← hnl]; exact hG.n
  have hm4096 : m ≤ 4096 := by rw [← hml]; exact hG.l
  clear hg hl hG hE hNS hLS
  have hX0 : ((w.alloc (.cells #[.slice A n c, .slice A2 m c2] 25)).alloc (.cells #[.slice none 0 0, .slice none 0 0] 25)).heap[w.heap.size]? = some (.cells #[.slice A n c, .slice A2 m c2] 25 (0, 0)) := (Go.heap_alloc_old _ _ (by simp)).trans (Go.heap_alloc_new w _)
  have hX1 : ((w.alloc (.cells #[.slice A n c, .slice A2 m c2] 25)).alloc (.cells #[.slice none 0 0, .slice none 0 0] 25)).heap[w.heap.size + 1]? = some (.cells #[.slice none 0 0, .slice none 0 0] 25 (0, 0)) := by
    have := Go.heap_alloc_new (w.alloc (.cells #[.slice A n c, .slice A2 m c2] 25)) (.cells #[.slice none 0 0, .slice none 0 0] 25)
    rw [show (w.alloc (.cells #[.slice A n c, .slice A2 m c2] 25)).heap.size = w.heap.size + 1 by simp] at this
    exact this
  have hB0 := ((Below.refl w.heap.size w).alloc (Nat.le_refl _) (.cells #[.slice A n c, .slice A2 m c2] 25)).alloc (by simp) (.cells #[.slice none 0 0, .slice none 0 0] 25)
  go_enter Try.func37, Try.ntmps37
  go_upto_region 1 with fail
  generalize (w.alloc (.cells #[.slice A n c, .slice A2 m c2] 25)).alloc (.cells #[.slice none 0 0, .slice none 0 0] 25) = w1 at *
  generalize hg1 : w.heap.size + 1 = g1 at *
  generalize hg0 : w.heap.size = g0 at *
  have HGE := Lib.hid hg0
  have HG1 := Lib.hid (show GB w1 g1 (.slice none 0 0) (.slice none 0 0) from hX1)
  have HG0 := Lib.hid (show GB w1 g0 (.slice A n c) (.slice A2 m c2) from hX0)
  have HGG := Lib.hid (show g1 = g0 + 1 by omega)
  have HB1 := Lib.hid hB0
  clear hX0 hX1 hB0 hg1 hg0
  have GAT := Lib.hid (fun w' (h : Below g0 w w') => (by have := HGE.out; subst this; exact ⟨(HN.out.below h).more h.size, (HL.out.below h).more h.size⟩ : GN w' w'.heap.size A n ns ∧ GL w' w'.heap.size A2 m ls))
  have hgl := HG0.out.lt
  obtain ⟨e0, _⟩ := HG0.out.c0
  obtain ⟨e1, _⟩ := HG0.out.c1
  obtain ⟨z0, k0⟩ := HG1.out.c0
  obtain ⟨z1, k1⟩ := HG1.out.c1
  cases hid : idOk a
  · have eqv : 70 = E := Eq.symm (by rw [HE.out, hid]; rfl)
    subst eqv
    have eqv : [] = NS := Eq.symm (by rw [HNS.out, if_neg (by decide)])
    subst eqv
    have eqv : [] = LS := Eq.symm (by rw [HLS.out, if_neg (by decide)])
    subst eqv
    go_wp2_with (first | (go_at_call 30; refine (rcheckid_bad hid _).mono ?_; rintro e w2 ⟨rfl, hww⟩; subst hww))
    all_goals
      refine bodyPost_ret (ret_graph2 rfl _ _ _ rfl rfl ((HG1.out.s0 (.slice none 0 0)).s1 (.slice none 0 0))) rfl ?_
      have hge2 := HGE.out
      have hgg := HGG.out
      subst hge2
      exact ⟨none, 0, 0, none, 0, 0, rfl, World.ownsRow_nil _ _ _ _, World.ownsRow_nil _ _ _ _, (HB1.out.setCell (p := ⟨g1, 0, none⟩) (by show _ ≤ g1; omega) _).setCell (p := ⟨g1, 1, none⟩) (by show _ ≤ g1; omega) _⟩
  · cases hno : hasN ns a
    rotate_left
    · have eqv : 72 = E := Eq.symm (by rw [HE.out, hid, hno, if_neg (by decide), if_pos rfl])
      subst eqv
      have eqv : [] = NS := Eq.symm (by rw [HNS.out, if_neg (by decide)])
      subst eqv
      have eqv : [] = LS := Eq.symm (by rw [HLS.out, if_neg (by decide)])
      subst eqv
      go_wp2_with (first | (go_at_call 30; refine (rcheckid_ok hid _).mono ?_; rintro e w2 ⟨rfl, hww⟩; subst hww))
      refine (place_yes (GAT.out _ HB1.out).1 (by omega) hno).mono ?_
      rintro e w2 ⟨p, rfl, _, _, hb⟩
      have HB2 := Lib.hid (HB1.out.trans (hb.mono (by omega)))
      have HG12 := Lib.hid (HG1.out.below hb HG1.out.lt)
      have hp0 : (0 : Int) ≤ (p : Int) := by omega
      clear hb
      obtain ⟨z0, k0⟩ := HG12.out.c0
      obtain ⟨z1, k1⟩ := HG12.out.c1
      go_wp2_with (fail)
      refine bodyPost_ret (ret_graph2 rfl _ _ _ rfl rfl ((HG12.out.s0 (.slice none 0 0)).s1 (.slice none 0 0))) rfl ?_
      have hge2 := HGE.out
      have hgg := HGG.out
      subst hge2
      exact ⟨none, 0, 0, none, 0, 0, rfl, World.ownsRow_nil _ _ _ _, World.ownsRow_nil _ _ _ _, (HB2.out.setCell (p := ⟨g1, 0, none⟩) (by show _ ≤ g1; omega) _).setCell (p := ⟨g1, 1, none⟩) (by show _ ≤ g1; omega) _⟩
    · go_wp2_with (first | (go_at_call 30; refine (rcheckid_ok hid _).mono ?_; rintro e w2 ⟨rfl, hww⟩; subst hww))
      refine (place_no (GAT.out _ HB1.out).1 (by omega) hno).mono ?_
      rintro e w2 ⟨rfl, hb⟩
      have HB2 := Lib.hid (HB1.out.trans (hb.mono (by omega)))
      have HG12 := Lib.hid (HG1.out.below hb HG1.out.lt)
      have HG02 := Lib.hid (HG0.out.below hb HG0.out.lt)
      clear hb e0 e1 z0 z1 k0 k1
      obtain ⟨e0, _⟩ := HG02.out.c0
      obtain ⟨e1, _⟩ := HG02.out.c1
      obtain ⟨z0, k0⟩ := HG12.out.c0
      obtain ⟨z1, k1⟩ := HG12.out.c1
      by_cases hlen : n = 256
      · have eqv : 2 = E := Eq.symm (by rw [HE.out, hid, hno, hnl, if_neg (by decide), if_neg (by decide), if_pos (by omega)])
        subst eqv
        have eqv : [] = NS := Eq.symm (by rw [HNS.out, if_neg (by decide)])
        subst eqv
        have eqv : [] = LS := Eq.symm (by rw [HLS.out, if_neg (by decide)])
        subst eqv
        have hle : ((n : Int) == 256) = true := by rw [beq_iff_eq]; omega
        go_wp2_with (fail)
        refine bodyPost_ret (ret_graph2 rfl _ _ _ rfl rfl ((HG12.out.s0 (.slice none 0 0)).s1 (.slice none 0 0))) rfl ?_
        have hge2 := HGE.out
        have hgg := HGG.out
        subst hge2
        exact ⟨none, 0, 0, none, 0, 0, rfl, World.ownsRow_nil _ _ _ _, World.ownsRow_nil _ _ _ _, (HB2.out.setCell (p := ⟨g1, 0, none⟩) (by show _ ≤ g1; omega) _).setCell (p := ⟨g1, 1, none⟩) (by show _ ≤ g1; omega) _⟩
      · have eqv : 0 = E := Eq.symm (by rw [HE.out, hid, hno, hnl, if_neg (by decide), if_neg (by decide), if_neg (by omega)])
        subst eqv
        have eqv : addN ns a = NS := Eq.symm (by rw [HNS.out, if_pos rfl])
        subst eqv
        have eqv : ls = LS := Eq.symm (by rw [HLS.out, if_pos rfl])
        subst eqv
        have hle : ((n : Int) == 256) = false := by rw [beq_eq_false_iff_ne]; omega
        have HID := Lib.hid (And.intro hid hno)
        clear hid hno
        go_wp2_with (fail)
        refine (copy_any A A2 n c m c2 ns ls _ (GAT.out _ HB2.out).1 (GAT.out _ HB2.out).2 (by omega) (by omega)).mono ?_
        rintro e w3 ⟨C, d, C2, d2, rfl, o1, o2, hb⟩
        have hsz2 : g0 ≤ w2.heap.size := by have := HG02.out.lt; omega
        have HB3 := Lib.hid (HB2.out.trans (hb.mono hsz2))
        have HG13 := Lib.hid (HG12.out.below hb HG12.out.lt)
        have HG03 := Lib.hid (HG02.out.below hb HG02.out.lt)
        have HLR := Lib.hid (own_mono o2 hsz2)
        clear hb o1 o2 e0 e1 z0 z1 k0 k1
        have hX5 := Go.heap_alloc_new w3 (.cells #[.slice none 0 0, .slice C2 m d2] 25)
        have HA0 := Lib.hid (HG03.out.alloc (.cells #[.slice none 0 0, .slice C2 m d2] 25))
        have HA1 := Lib.hid (HG13.out.alloc (.cells #[.slice none 0 0, .slice C2 m d2] 25))
        have HAL := Lib.hid (World.ownsRow.alloc HLR.out (.cells #[.slice none 0 0, .slice C2 m d2] 25))
        have HAB := Lib.hid (HB3.out.alloc (by have := HG03.out.lt; omega) (.cells #[.slice none 0 0, .slice C2 m d2] 25))
        have HZ3 := Lib.hid (show (w3.alloc (.cells #[.slice none 0 0, .slice C2 m d2] 25)).heap.size = w3.heap.size + 1 by simp)
        have HLT := Lib.hid (show g1 < w3.heap.size from HG13.out.lt)
        have HLB := Lib.hid (fun k hk => (HLR.out.lt k hk).2)
        have hfl := run_field1 C C2 n d m d2
        go_wp2_with (fail)
        generalize w3.alloc (.cells #[.slice none 0 0, .slice C2 m d2] 25) = wS at *
        generalize w3.heap.size = G at *
        have HXG := Lib.hid (show GB wS G (.slice none 0 0) (.slice C2 m d2) from hX5)
        have hGs : G < wS.heap.size := HXG.out.lt
        have hg0G : g0 < G := by have := HLT.out; have := HGG.out; omega
        obtain ⟨cnt, hcnt⟩ : ∃ q, q = cntN ns a := ⟨_, rfl⟩
        have HCN := Lib.hid hcnt
        have hcle : cnt ≤ n := by rw [hcnt, ← hnl]; exact List.countP_le_length
        have HCS := Lib.hid (fun (i : Nat) (hi : i < n) (hne : i ≠ cnt) => curN_step (ns := ns) (a := a) (i := i) (by omega) (by rw [← hcnt]; exact hne))
        have HCA := Lib.hid (fun (hi : cnt < n) => (by have q := curN_at (ns := ns) (a := a) (by rw [← hcnt]; omega); rw [← hcnt] at q; exact q : curN ns a (cnt + 1) = (curN ns a cnt ++ [(⟨a, true, false⟩ : Nd)]) ++ [ndA ns cnt]))
        have HLO := Lib.hid (fun (i : Nat) (hi : i < n) (h : i < cnt) => id_lt HGD.out (a := a) (i := i) (by omega) (by rw [← hcnt]; exact h))
        have HHI := Lib.hid (fun (i : Nat) (hi : i < n) (h : cnt ≤ i) => id_gt HGD.out HID.out.2 (i := i) (by omega) (by rw [← hcnt]; exact h))
        have HEN := Lib.hid (show (cnt < n → curN ns a n = addN ns a) ∧ (cnt = n → curN ns a n ++ [(⟨a, true, false⟩ : Nd)] = addN ns a) by rw [hcnt, ← hnl]; exact curN_end)
        clear hcnt hX5 HG13 HG03 HB3 HLR HZ3 HG12 HG02 HB2 HG0 HG1 HB1
        go_loopw [7, 8] (fun pv iv wr => ∃ (i k : Nat) (v : Value), i ≤ n ∧ iv = .int .i64 i ∧ pv = .bool (decide (cnt < i)) ∧ Hid (k = (curN ns a i).length) ∧ Hid (wr.ownsRow (G + 1) 52 3 v k ((curN ns a i).flatMap ndC)) ∧ Hid (GB wr G v (.slice C2 m d2)) ∧ Hid (Below G wS wr)) (fun _ iv _ => n - (intOf iv).toNat)
        case atStart => exact ⟨0, 0, _, Nat.zero_le _, rfl, by simp, Lib.hid (by unfold curN; rw [if_neg (by omega)]; simp), Lib.hid (by unfold curN; rw [if_neg (by omega)]; simpa using World.ownsRow_nil _ _ _ _), HXG, Lib.hid (Below.refl _ _)⟩
        case round =>
          obtain ⟨i, k, v, hi, rfl, rfl, HK, HOW, HCG, HB⟩ := hrel
          obtain ⟨wa, rfl⟩ : ∃ wa : World, wa = wr := ⟨_, rfl⟩
          have HC0 := Lib.hid (HA0.out.below HB.out hg0G)
          obtain ⟨e00, _⟩ := HC0.out.c0
          obtain ⟨e01, _⟩ := HC0.out.c1
          obtain ⟨e20, f20⟩ := HCG.out.c0
          have hkl : k ≤ 257 := by have := curN_len (ns := ns) (a := a) (i := i); have := HK.out; omega
          by_cases hin : i < n
          · obtain ⟨b, off, rfl, hbl, hc⟩ := HN.out.at (by omega)
            obtain ⟨c0, c1, c2'⟩ := hc i hin
            have hblg : b < g0 := by have := HGE.out; omega
            have HWA := Lib.hid (HAB.out.trans (HB.out.mono (Nat.le_of_lt hg0G)))
            have d0 := (HWA.out.cell (p := ⟨b, off + i * 3, none⟩) hblg).trans c0
            have d1 := (HWA.out.cell (p := ⟨b, off + (i * 3 + 1), none⟩) hblg).trans c1
            have d2 := (HWA.out.cell (p := ⟨b, off + (i * 3 + 2), none⟩) hblg).trans c2'
            rw [← Nat.add_assoc] at d1 d2
            have HS0 := Lib.hid (HCS.out i hin)
            have HL0 := Lib.hid (HLO.out i hin)
            have HH0 := Lib.hid (HHI.out i hin)
            obtain ⟨x, hx⟩ : ∃ x, x = ndA ns i := ⟨_, rfl⟩
            rw [← hx] at d0 d1 d2 HS0 HL0 HH0
            have HXX := Lib.hid hx
            obtain ⟨xi, xu, xm⟩ := x
            clear hc c0 c1 c2' hx
            by_cases hie : i = cnt
            · subst hie
              have hgt := HH0.out (Nat.le_refl _)
              have hdf : decide (i < i) = false := by simp
              have hdf2 : decide (xi > a) = true := by simp; exact hgt
              have hgt2 : a < xi := hgt
              have HA2 := Lib.hid (HCA.out hin)
              rw [← HXX.out] at HA2
              have HBS : Hid (G + 1 ≤ wa.heap.size) := Lib.hid (HCG.out.lt)
              rw [hdf]
              go_wp2_with (at_builtin; refine wpList_append_one rfl (.tmp 47) (.tmp 50) 22 rfl (G + 1) 52 iN (.agg #[.int .i64 0, .bool false, .bool false]) 3 16 Try.underlying22 hiN hzN0 hzN1 hzN2 rfl (by decide) (by decide) v k ((curN ns a i).flatMap ndC) rfl HOW.out (ndC ⟨a, true, false⟩) rfl (oneN _) 52 1 (by simp [Act.eval]) (by omega) HBS.out ?_; intro v1 w6 hown1 hbel1; obtain ⟨A1, d1', rfl⟩ := own_form hown1; have hz := HCG.out.below (hbel1 (G + 1) _ (Below.refl (G + 1) _) (Nat.le_refl _)) (Nat.lt_succ_self G); have hz0 := hz.c0.1; have hz1 := hz.c0.2; have HZ := Lib.hid hz; have HO := Lib.hid hown1; have HBL := Lib.hid hbel1; clear hz hown1 hbel1)
              clear hz0 hz1
              have HOB := Lib.hid (show (w6.setCell ⟨G, 0, none⟩ (.slice A1 (k + 1) d1')).ownsRow (G + 1) 52 3 (.slice A1 (k + 1) d1') (k + 1) ((curN ns a i ++ [(⟨a, true, false⟩ : Nd)]).flatMap ndC) by rw [List.flatMap_append]; exact own_set (by simpa using HO.out) (Nat.lt_succ_self G))
              have HGB := Lib.hid (HZ.out.s0 (.slice A1 (k + 1) d1'))
              have HBB := Lib.hid ((HBL.out G _ HB.out (Nat.le_succ G)).setCell (p := ⟨G, 0, none⟩) (Nat.le_refl _) (.slice A1 (k + 1) d1'))
              generalize w6.setCell ⟨G, 0, none⟩ (.slice A1 (k + 1) d1') = wb at *
              have HC0b := Lib.hid (HA0.out.below HBB.out hg0G)
              have HWB := Lib.hid (HAB.out.trans (HBB.out.mono (Nat.le_of_lt hg0G)))
              clear e00 e01 e20 f20 d0 d1 d2
              obtain ⟨e00, _⟩ := HC0b.out.c0
              obtain ⟨e01, _⟩ := HC0b.out.c1
              obtain ⟨e20, f20⟩ := HGB.out.c0
              obtain ⟨_, _, hAe, hbl', hc⟩ := HN.out.at (by omega)
              injection hAe with hAe
              injection hAe with hb1 ho1 _
              subst hb1
              subst ho1
              obtain ⟨c0, c1, c2'⟩ := hc i hin
              rw [← HXX.out] at c0 c1 c2'
              have d0 := (HWB.out.cell (p := ⟨b, off + i * 3, none⟩) hblg).trans c0
              have d1 := (HWB.out.cell (p := ⟨b, off + (i * 3 + 1), none⟩) hblg).trans c1
              have d2 := (HWB.out.cell (p := ⟨b, off + (i * 3 + 2), none⟩) hblg).trans c2'
              rw [← Nat.add_assoc] at d1 d2
              clear hc c0 c1 c2'
              have hownd : wb.drew.ownsRow (G + 1) 52 3 (.slice A1 (k + 1) d1') (k + 1) ((curN ns a i ++ [(⟨a, true, false⟩ : Nd)]).flatMap ndC) := HOB.out
              have hOL := Lib.hid (fun q hq => (HOB.out.lt q hq).1)
              have HCGd := Lib.hid (fun o => GB.alloc (show GB wb.drew G _ _ from HGB.out) o)
              have hGw : G ≤ wb.heap.size := Nat.le_of_lt HGB.out.lt
              have HGw := Lib.hid (HGB.out.lt)
              have HBd := Lib.hid (fun o => (show Below G wS wb.drew from below_drewN HBB.out 1).alloc hGw o)
              have e2a := fun o => alloc_keep (show wb.drew.cell? _ = some _ from e20) o
              have e2b := fun o => alloc_keep e20 o
              have e2c := fun o => (show (wb.alloc o).drew.cell? _ = some _ from alloc_keep e20 o)
              have hkb : ((k + 1) + 1) * 16 ≤ 140737488355328 := by omega
              go_region_law (refine step_append_lies _ rfl (.tmp 54) (.tmp 60) 22 rfl (G + 1) 52 iN (.agg #[.int .i64 0, .bool false, .bool false]) 3 16 Try.underlying22 hiN hzN0 hzN1 hzN2 rfl (by decide) (.slice A1 (k + 1) d1') (k + 1) ((curN ns a i ++ [(⟨a, true, false⟩ : Nd)]).flatMap ndC) (by simp [Act.eval]) (World.ownsRow.alloc hownd _) ⟨wb.heap.size, 0, none⟩ 1 1 (ndC ⟨xi, xu, xm⟩) (by simp [Act.eval]) rfl (new_cells wb.drew (ndC ⟨xi, xu, xm⟩) _) (oneN _) (by decide) (by unfold maxLen; omega) hkb (by have := HGw.out; simp; omega) (wb.heap.size + 1) (by simp) ?_; intro g cap w5 hown1 hgrow _ _; have hz := (HCGd.out _).grown hgrow hOL.out (Nat.lt_succ_self G); have hz0 := hz.c0.1; have hz1 := hz.c0.2; have HO5 := Lib.hid hown1; have HW5 := Lib.hid ((HBd.out _).grown hgrow (by have := HGw.out; simp; omega) (fun q hq => by have := hOL.out q hq; omega)); have HZ5 := Lib.hid hz; clear hown1 hgrow hz)
              all_goals
                go_wp2_with (fail)
                clear hz0 hz1 hownd
                go_roundw
                case rel => exact ⟨i + 1, k + 1 + 1, _, by omega, by go_num, by simp, Lib.hid (by rw [HA2.out, List.length_append, List.length_append, ← HK.out]; rfl), Lib.hid (by rw [HA2.out, List.flatMap_append (xs := curN ns a i ++ [(⟨a, true, false⟩ : Nd)])]; exact own_set (by simpa using HO5.out) (Nat.lt_succ_self G)), Lib.hid (HZ5.out.s0 _), Lib.hid (HW5.out.setCell (p := ⟨G, 0, none⟩) (Nat.le_refl _) _)⟩
                case measure => simp [intOf]; omega
            · have HST := Lib.hid (HS0.out hie)
              rcases Nat.lt_or_ge cnt i with hlt | hge
              · have hdf : decide (cnt < i) = true := by simp; exact hlt
                rw [hdf]
                go_wp2_with (fail)
                have hownd : wa.drew.ownsRow (G + 1) 52 3 v k ((curN ns a i).flatMap ndC) := HOW.out
                have hOL := Lib.hid (fun q hq => (HOW.out.lt q hq).1)
                have HCGd := Lib.hid (fun o => GB.alloc (show GB wa.drew G _ _ from HCG.out) o)
                have hGw : G ≤ wa.heap.size := Nat.le_of_lt HCG.out.lt
                have HGw := Lib.hid (HCG.out.lt)
                have HBd := Lib.hid (fun o => (show Below G wS wa.drew from below_drewN HB.out 1).alloc hGw o)
                have e2a := fun o => alloc_keep (show wa.drew.cell? _ = some _ from e20) o
                have e2b := fun o => alloc_keep e20 o
                have e2c := fun o => (show (wa.alloc o).drew.cell? _ = some _ from alloc_keep e20 o)
                have hkb : (k + 1) * 16 ≤ 140737488355328 := by omega
                go_region_law (refine step_append_lies _ rfl (.tmp 54) (.tmp 60) 22 rfl (G + 1) 52 iN (.agg #[.int .i64 0, .bool false, .bool false]) 3 16 Try.underlying22 hiN hzN0 hzN1 hzN2 rfl (by decide) v k ((curN ns a i).flatMap ndC) (by simp [Act.eval]) (World.ownsRow.alloc hownd _) ⟨wa.heap.size, 0, none⟩ 1 1 (ndC ⟨xi, xu, xm⟩) (by simp [Act.eval]) rfl (new_cells wa.drew (ndC ⟨xi, xu, xm⟩) _) (oneN _) (by decide) (by unfold maxLen; omega) hkb (by have := HGw.out; simp; omega) (wa.heap.size + 1) (by simp) ?_; intro g cap w5 hown1 hgrow _ _; have hz := (HCGd.out _).grown hgrow hOL.out (Nat.lt_succ_self G); have hz0 := hz.c0.1; have hz1 := hz.c0.2; have HO5 := Lib.hid hown1; have HW5 := Lib.hid ((HBd.out _).grown hgrow (by have := HGw.out; simp; omega) (fun q hq => by have := hOL.out q hq; omega)); have HZ5 := Lib.hid hz; clear hown1 hgrow hz)
                all_goals
                  go_wp2_with (fail)
                  clear hz0 hz1 hownd
                  go_roundw
                  case rel => exact ⟨i + 1, k + 1, _, by omega, by go_num, by simp; omega, Lib.hid (by rw [HST.out, List.length_append, ← HK.out]; rfl), Lib.hid (by rw [HST.out, List.flatMap_append]; exact own_set (by simpa using HO5.out) (Nat.lt_succ_self G)), Lib.hid (HZ5.out.s0 _), Lib.hid (HW5.out.setCell (p := ⟨G, 0, none⟩) (Nat.le_refl _) _)⟩
                  case measure => simp [intOf]; omega
              · have hdf : decide (cnt < i) = false := by simp; omega
                have hlo := HL0.out (by omega)
                have hgt2 : ¬ a < xi := by have : xi < a := hlo; omega
                have hdf2 : decide (xi > a) = false := by simp; have : xi < a := hlo; omega
                rw [hdf]
                go_wp2_with (fail)
                have hownd : wa.drew.ownsRow (G + 1) 52 3 v k ((curN ns a i).flatMap ndC) := HOW.out
                have hOL := Lib.hid (fun q hq => (HOW.out.lt q hq).1)
                have HCGd := Lib.hid (fun o => GB.alloc (show GB wa.drew G _ _ from HCG.out) o)
                have hGw : G ≤ wa.heap.size := Nat.le_of_lt HCG.out.lt
                have HGw := Lib.hid (HCG.out.lt)
                have HBd := Lib.hid (fun o => (show Below G wS wa.drew from below_drewN HB.out 1).alloc hGw o)
                have e2a := fun o => alloc_keep (show wa.drew.cell? _ = some _ from e20) o
                have e2b := fun o => alloc_keep e20 o
                have e2c := fun o => (show (wa.alloc o).drew.cell? _ = some _ from alloc_keep e20 o)
                have hkb : (k + 1) * 16 ≤ 140737488355328 := by omega
                go_region_law (refine step_append_lies _ rfl (.tmp 54) (.tmp 60) 22 rfl (G + 1) 52 iN (.agg #[.int .i64 0, .bool false, .bool false]) 3 16 Try.underlying22 hiN hzN0 hzN1 hzN2 rfl (by decide) v k ((curN ns a i).flatMap ndC) (by simp [Act.eval]) (World.ownsRow.alloc hownd _) ⟨wa.heap.size, 0, none⟩ 1 1 (ndC ⟨xi, xu, xm⟩) (by simp [Act.eval]) rfl (new_cells wa.drew (ndC ⟨xi, xu, xm⟩) _) (oneN _) (by decide) (by unfold maxLen; omega) hkb (by have := HGw.out; simp; omega) (wa.heap.size + 1) (by simp) ?_; intro g cap w5 hown1 hgrow _ _; have hz := (HCGd.out _).grown hgrow hOL.out (Nat.lt_succ_self G); have hz0 := hz.c0.1; have hz1 := hz.c0.2; have HO5 := Lib.hid hown1; have HW5 := Lib.hid ((HBd.out _).grown hgrow (by have := HGw.out; simp; omega) (fun q hq => by have := hOL.out q hq; omega)); have HZ5 := Lib.hid hz; clear hown1 hgrow hz)
                all_goals
                  go_wp2_with (fail)
                  clear hz0 hz1 hownd
                  go_roundw
                  case rel => exact ⟨i + 1, k + 1, _, by omega, by go_num, by simp; omega, Lib.hid (by rw [HST.out, List.length_append, ← HK.out]; rfl), Lib.hid (by rw [HST.out, List.flatMap_append]; exact own_set (by simpa using HO5.out) (Nat.lt_succ_self G)), Lib.hid (HZ5.out.s0 _), Lib.hid (HW5.out.setCell (p := ⟨G, 0, none⟩) (Nat.le_refl _) _)⟩
                  case measure => simp [intOf]; omega
          · obtain rfl : i = n := by omega
            have hg1G : g1 < G := HLT.out
            have HC1 := Lib.hid (HA1.out.below HB.out hg1G)
            have HLX := Lib.hid (own_keep HAL.out HB.out HLB.out)
            have HBF := Lib.hid (HAB.out.trans (HB.out.mono (Nat.le_of_lt hg0G)))
            obtain ⟨e21, f21⟩ := HCG.out.c1
            by_cases hpt : cnt < i
            · have hdf : decide (cnt < i) = true := by simp; exact hpt
              have HF := Lib.hid (HEN.out.1 hpt)
              obtain ⟨z0, k0⟩ := HC1.out.c0
              obtain ⟨z1, k1⟩ := HC1.out.c1
              obtain ⟨A1, d1', rfl⟩ := own_form HOW.out
              rw [hdf]
              go_wp2_with (fail)
              refine bodyPost_ret (ret_graph2 rfl _ _ _ rfl rfl ((HC1.out.s0 (.slice A1 k d1')).s1 (.slice C2 m d2))) rfl ?_
              have hge2 := HGE.out
              have hgg := HGG.out
              subst hge2
              exact ⟨A1, k, d1', C2, m, d2, rfl, by have q := HOW.out; rw [HF.out] at q; exact own_mono (own_set (own_set q (by omega)) (by omega)) (by omega), own_set2 (own_set2 HLX.out (own_neG HLX.out HC1.out (by decide))) (own_neG HLX.out HC1.out (by decide)), (HBF.out.setCell (p := ⟨g1, 0, none⟩) (by show _ ≤ g1; omega) _).setCell (p := ⟨g1, 1, none⟩) (by show _ ≤ g1; omega) _⟩
            · have hdf : decide (cnt < i) = false := by simp; omega
              have HF := Lib.hid (HEN.out.2 (by omega))
              have HBS : Hid (G + 1 ≤ wa.heap.size) := Lib.hid (HCG.out.lt)
              rw [hdf]
              go_wp2_with (at_builtin; refine wpList_append_one rfl (.tmp 66) (.tmp 69) 22 rfl (G + 1) 52 iN (.agg #[.int .i64 0, .bool false, .bool false]) 3 16 Try.underlying22 hiN hzN0 hzN1 hzN2 rfl (by decide) (by decide) v k ((curN ns a i).flatMap ndC) rfl HOW.out (ndC ⟨a, true, false⟩) rfl (oneN _) 52 1 (by simp [Act.eval]) (by omega) HBS.out ?_; intro v1 w6 hown1 hbel1; obtain ⟨A1, d1', rfl⟩ := own_form hown1; have hz := HCG.out.below (hbel1 (G + 1) _ (Below.refl (G + 1) _) (Nat.le_refl _)) (Nat.lt_succ_self G); have hz0 := hz.c0.1; have hz1 := hz.c0.2; have hz2 := hz.c1.1; have HZ := Lib.hid hz; have HO := Lib.hid hown1; have HBL := Lib.hid hbel1; have HBW := Lib.hid (hbel1 (G + 1) _ (Below.refl (G + 1) _) (Nat.le_refl _)); have HC6 := Lib.hid (HC1.out.below HBW.out (by omega)); have HLY := Lib.hid (own_keep HLX.out HBW.out (fun q hq => by have := HLB.out q hq; omega)); obtain ⟨z0, k0⟩ := HC6.out.c0; obtain ⟨z1, k1⟩ := HC6.out.c1; clear hz hown1 hbel1)
              refine bodyPost_ret (ret_graph2 rfl _ _ _ rfl rfl (((HC6.out.set (show g1 ≠ G by omega) 0 (.slice A1 (k + 1) d1')).s0 (.slice A1 (k + 1) d1')).s1 (.slice C2 m d2))) rfl ?_
              have hge2 := HGE.out
              have hgg := HGG.out
              subst hge2
              exact ⟨A1, k + 1, d1', C2, m, d2, rfl, by have q := HO.out; rw [show (curN ns a i).flatMap ndC ++ ndC ⟨a, true, false⟩ = (addN ns a).flatMap ndC by rw [← HF.out, List.flatMap_append]; simp] at q; exact own_mono (own_set (own_set (own_set q (by omega)) (by omega)) (by omega)) (by omega), own_set2 (own_set2 (own_set2 HLY.out (own_neG HLY.out HZ.out (by decide))) (own_neG HLY.out HC6.out (by decide))) (own_neG HLY.out HC6.out (by decide)), ((((HBF.out.trans ((HBL.out _ _ (Below.refl _ wa) (by omega)).mono (Nat.le_refl _)))).setCell (p := ⟨G, 0, none⟩) (by show _ ≤ G; omega) _).setCell (p := ⟨g1, 0, none⟩) (by show _ ≤ g1; omega) _).setCell (p := ⟨g1, 1, none⟩) (by show _ ≤ g1; omega) _⟩

end Go.Proofs.Ytgmljlgoaifneaa
