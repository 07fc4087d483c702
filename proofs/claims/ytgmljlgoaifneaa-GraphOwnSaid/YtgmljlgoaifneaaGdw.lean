/- The walks of the deeds: a link's weight, a link cut or raised, a router turned. Conditions: as each theorem's hypotheses say. -/
import Derived.Test.YtgmljlgoaifneaaGdp
namespace Go.Proofs.Ytgmljlgoaifneaa
open Go.RowKit Flt Go.Mem Go.Lib
set_option linter.unusedVariables false

attribute [local go_sem] run_store_float
set_option maxHeartbeats 1600000
set_option maxRecDepth 100000
set_option maxHeartbeats 3200000 in
theorem weightD_any (A A2 : Option Addr) (n c m c2 base g : Nat) (k a b : Int) (x : Nat) (ns : List Nd) (ls : List Lk) (w : World) (hcb : CB w g (.slice A n c) (.slice A2 m c2) k a b x) (hn : w.ownsRow base 52 3 (.slice A n c) n (ns.flatMap ndC)) (hl : w.ownsRow base 54 4 (.slice A2 m c2) m (ls.flatMap lkC)) (hb : base ≤ w.heap.size) (hbg : base ≤ g) (hG : Good ns ls) (hx64 : x < 18446744073709551616) (E : Int) (LS : List Lk) (hE : E = if hasL ls (lkT a b) = false then 4 else withinI x 4697254411347427328) (hLS : LS = if hasL ls (lkT a b) = true ∧ withinI x 4697254411347427328 = 0 then modL ls (lkT a b) (turnL 3 x) else ls) :
    Calls Try.prog 68 #[.pointer (some ⟨g, 0, none⟩)] w (DPost base g k a b x A A2 n c m c2 E ns LS w) := by
  have HCB := Lib.hid hcb
  have HN := Lib.hid hn
  have HL := Lib.hid hl
  have HB0 := Lib.hid hb
  have HGD := Lib.hid hG
  have hnl : ns.length = n := (GN.of_own hn).1
  have hml : ls.length = m := (GL.of_own hl).1
  have hn256 : n ≤ 256 := by rw [← hnl]; exact hG.n
  have hm4096 : m ≤ 4096 := by rw [← hml]; exact hG.l
  have HE := Lib.hid hE
  have HLS := Lib.hid hLS
  clear hE hLS
  have LNK := Lib.hid (fun w' (h : Below w.heap.size w w') => link_any A A2 n c m c2 ls a b w' (((GL.of_own hl).below h).more h.size) hG.RiseL (by omega))
  have WEI := Lib.hid (fun W => weight_any x hx64 W)
  have CL := Lib.hid (fun h => cnt_lk hG.RiseL (t := lkT a b) h)
  obtain ⟨p0, f0⟩ := hcb.c0
  obtain ⟨p1, _⟩ := hcb.c1
  obtain ⟨p3, _⟩ := hcb.c3
  obtain ⟨p4, _⟩ := hcb.c4
  obtain ⟨p5, _⟩ := hcb.c5
  have hB := Below.refl w.heap.size w
  have hBd := hB.drew
  clear hcb hn hl hG hx64
  obtain ⟨R, hR⟩ : ∃ R, R = withinI x 4697254411347427328 := ⟨_, rfl⟩
  rw [← hR] at WEI HE HLS
  clear hR
  go_enter Try.func68, Try.ntmps68
  go_wp2_with (fail)
  go_region_held3 (fun w' => w'.cell? ⟨g, 0, none⟩ = some (.slice A n c) ∧ w'.cell? ⟨g, 1, none⟩ = some (.slice A2 m c2) ∧ w'.cell? ⟨g, 3, none⟩ = some (.int .i64 a) ∧ w'.cell? ⟨g, 4, none⟩ = some (.int .i64 b) ∧ Below w.heap.size w w')
    (first | exact held_keep4 (by assumption) hb | go_keep)
    (first | (go_at_call 88; refine (LNK.out _ (heldB4 (by assumption))).mono ?_; rintro z w' ⟨rfl, hb⟩))
  have H4 := Lib.hid (heldB4 (by assumption))
  have q1 := keep_cellG p1 H4.out
  have q5 := keep_cellG p5 H4.out
  clear hB hBd p0 p1 p3 p4 p5
  cases hh : hasL ls (lkT a b)
  · (try rw [hh])
    have eqv : 4 = E := Eq.symm (by rw [HE.out, hh]; rfl)
    subst eqv
    have eqv : ls = LS := Eq.symm (by rw [HLS.out, if_neg (by rw [hh]; rintro ⟨h, _⟩; cases h)])
    subst eqv
    go_wp2_with (fail)
    go_ret
    exact dpost_same HCB.out HN.out HL.out HB0.out _ (by first | exact H4.out | exact below_drewN H4.out _ | exact below_drewN (below_drewN H4.out _) _ | exact (H4.out.drew))
  · obtain ⟨hlt, e1, e2⟩ := CL.out hh
    clear e1 e2
    (try rw [hh])
    have eqv : R = E := Eq.symm (by rw [HE.out, hh]; rfl)
    subst eqv
    by_cases hz : R = 0
    · have eqv : ls.set (cntL ls (lkT a b)) (turnL 3 x (lkA ls (cntL ls (lkT a b)))) = LS := Eq.symm (by rw [HLS.out, if_pos ⟨hh, hz⟩]; rfl)
      subst eqv
      generalize cntL ls (lkT a b) = i at *
      subst hz
      obtain ⟨g2, hA2⟩ : ∃ g2, A2 = some ⟨g2, 0, none⟩ := by
        rcases own_cases HL.out with ⟨_, h, _⟩ | ⟨g2, h, _⟩
        · omega
        · exact ⟨g2, h⟩
      subst hA2
      have HCL := Lib.hid (own_below HL.out H4.out)
      have hidx : i < m := by omega
      have hcc := HCL.out.cellAt (i * 4 + 2) (by omega)
      rw [show (ls.flatMap lkC)[i * 4 + 2]? = _ from (lkC_get (l := ls) (i := i) (by omega)).2.2.1] at hcc
      have hff := HCL.out.frozenAt (i * 4 + 2)
      go_wp2_with (go_at_call 29; refine (WEI.out _).mono ?_; rintro e w2 ⟨rfl, hww⟩; subst hww)
      go_region_law (fail)
      all_goals
        go_wp2_with (fail)
        go_ret
        first | exact dpost_setL (j := 2) (y := turnL 3 x (lkA ls i)) HCB.out HN.out HL.out HB0.out (by first | exact H4.out | exact below_drewN H4.out _ | exact below_drewN (below_drewN H4.out _) _ | exact (H4.out.drew)) (by omega) (by decide) rfl | exact dpost_drewN (dpost_setL (j := 2) (y := turnL 3 x (lkA ls i)) HCB.out HN.out HL.out HB0.out (by first | exact H4.out | exact below_drewN H4.out _ | exact below_drewN (below_drewN H4.out _) _ | exact (H4.out.drew)) (by omega) (by decide) rfl) _
    · have eqv : ls = LS := Eq.symm (by rw [HLS.out, if_neg (by rintro ⟨_, h⟩; exact hz h)])
      subst eqv
      generalize cntL ls (lkT a b) = i at *
      go_wp2_with (go_at_call 29; refine (WEI.out _).mono ?_; rintro e w2 ⟨rfl, hww⟩; subst hww)
      all_goals
        go_ret
        exact dpost_same HCB.out HN.out HL.out HB0.out _ (by first | exact H4.out | exact below_drewN H4.out _ | exact below_drewN (below_drewN H4.out _) _ | exact (H4.out.drew))
set_option maxHeartbeats 3200000 in
theorem onLinkD_any (A A2 : Option Addr) (n c m c2 base g : Nat) (k a b : Int) (x : Nat) (ns : List Nd) (ls : List Lk) (w : World) (hcb : CB w g (.slice A n c) (.slice A2 m c2) k a b x) (hn : w.ownsRow base 52 3 (.slice A n c) n (ns.flatMap ndC)) (hl : w.ownsRow base 54 4 (.slice A2 m c2) m (ls.flatMap lkC)) (hb : base ≤ w.heap.size) (hbg : base ≤ g) (hG : Good ns ls) (u : Bool) (h : Nat) (hu : w.cell? ⟨h, 0, none⟩ = some (.bool u)) (E : Int) (LS : List Lk) (hE : E = if hasL ls (lkT a b) = false then 4 else 0) (hLS : LS = if hasL ls (lkT a b) = true then modL ls (lkT a b) (fun y => ⟨y.a, y.b, y.w, u⟩) else ls) :
    Calls Try.prog 90 #[.pointer (some ⟨g, 0, none⟩), .pointer (some ⟨h, 0, none⟩)] w (DPost base g k a b x A A2 n c m c2 E ns LS w) := by
  have HCB := Lib.hid hcb
  have HN := Lib.hid hn
  have HL := Lib.hid hl
  have HB0 := Lib.hid hb
  have HGD := Lib.hid hG
  have hnl : ns.length = n := (GN.of_own hn).1
  have hml : ls.length = m := (GL.of_own hl).1
  have hn256 : n ≤ 256 := by rw [← hnl]; exact hG.n
  have hm4096 : m ≤ 4096 := by rw [← hml]; exact hG.l
  have HE := Lib.hid hE
  have HLS := Lib.hid hLS
  clear hE hLS
  have LNK := Lib.hid (fun w' (h : Below w.heap.size w w') => link_any A A2 n c m c2 ls a b w' (((GL.of_own hl).below h).more h.size) hG.RiseL (by omega))
  have CL := Lib.hid (fun h => cnt_lk hG.RiseL (t := lkT a b) h)
  obtain ⟨p0, f0⟩ := hcb.c0
  obtain ⟨p1, _⟩ := hcb.c1
  obtain ⟨p3, _⟩ := hcb.c3
  obtain ⟨p4, _⟩ := hcb.c4
  obtain ⟨p5, _⟩ := hcb.c5
  have hB := Below.refl w.heap.size w
  have hBd := hB.drew
  clear hcb hn hl hG
  go_enter Try.func90, Try.ntmps90
  go_wp2_with (fail)
  go_region_held3 (fun w' => w'.cell? ⟨g, 0, none⟩ = some (.slice A n c) ∧ w'.cell? ⟨g, 1, none⟩ = some (.slice A2 m c2) ∧ w'.cell? ⟨g, 3, none⟩ = some (.int .i64 a) ∧ w'.cell? ⟨g, 4, none⟩ = some (.int .i64 b) ∧ Below w.heap.size w w')
    (first | exact held_keep4 (by assumption) hb | go_keep)
    (first | (go_at_call 88; refine (LNK.out _ (heldB4 (by assumption))).mono ?_; rintro z w' ⟨rfl, hb⟩))
  have H4 := Lib.hid (heldB4 (by assumption))
  have q1 := keep_cellG p1 H4.out
  have qu := keep_cellG hu H4.out
  clear hB hBd p0 p1 p3 p4 p5
  cases hh : hasL ls (lkT a b)
  · (try rw [hh])
    have eqv : 4 = E := Eq.symm (by rw [HE.out, hh]; rfl)
    subst eqv
    have eqv : ls = LS := Eq.symm (by rw [HLS.out, if_neg (by rw [hh]; decide)])
    subst eqv
    go_wp2_with (fail)
    go_ret
    exact dpost_same HCB.out HN.out HL.out HB0.out _ (by first | exact H4.out | exact below_drewN H4.out _ | exact below_drewN (below_drewN H4.out _) _ | exact (H4.out.drew))
  · obtain ⟨hlt, e1, e2⟩ := CL.out hh
    clear e1 e2
    (try rw [hh])
    have eqv : 0 = E := Eq.symm (by rw [HE.out, hh]; rfl)
    subst eqv
    have eqv : ls.set (cntL ls (lkT a b)) ⟨(lkA ls (cntL ls (lkT a b))).a, (lkA ls (cntL ls (lkT a b))).b, (lkA ls (cntL ls (lkT a b))).w, u⟩ = LS := Eq.symm (by rw [HLS.out, if_pos hh]; rfl)
    subst eqv
    generalize cntL ls (lkT a b) = i at *
    obtain ⟨g2, hA2⟩ : ∃ g2, A2 = some ⟨g2, 0, none⟩ := by
      rcases own_cases HL.out with ⟨_, h, _⟩ | ⟨g2, h, _⟩
      · omega
      · exact ⟨g2, h⟩
    subst hA2
    have HCL := Lib.hid (own_below HL.out H4.out)
    have hidx : i < m := by omega
    have hcc := HCL.out.cellAt (i * 4 + 3) (by omega)
    rw [show (ls.flatMap lkC)[i * 4 + 3]? = _ from (lkC_get (l := ls) (i := i) (by omega)).2.2.2] at hcc
    have hff := HCL.out.frozenAt (i * 4 + 3)
    go_wp2_with (fail)
    go_region_law (fail)
    all_goals
      go_wp2_with (fail)
      go_ret
      first | exact dpost_setL (j := 3) (y := ⟨(lkA ls i).a, (lkA ls i).b, (lkA ls i).w, u⟩) HCB.out HN.out HL.out HB0.out (by first | exact H4.out | exact below_drewN H4.out _ | exact below_drewN (below_drewN H4.out _) _ | exact (H4.out.drew)) (by omega) (by decide) rfl | exact dpost_drewN (dpost_setL (j := 3) (y := ⟨(lkA ls i).a, (lkA ls i).b, (lkA ls i).w, u⟩) HCB.out HN.out HL.out HB0.out (by first | exact H4.out | exact below_drewN H4.out _ | exact below_drewN (below_drewN H4.out _) _ | exact (H4.out.drew)) (by omega) (by decide) rfl) _
theorem turn6_any (g2 o : Nat) (v : Value) (w : World) (h0 : w.cell? ⟨g2, o + 2, none⟩ = some v) (h1 : w.frozen? ⟨g2, o + 2, none⟩ = false) : Calls Try.prog 71 #[.pointer (some ⟨g2, o, none⟩)] w fun e w' => e = .returned (.tuple #[]) ∧ w' = w.setCell ⟨g2, o + 2, none⟩ (.bool true) := by
  go_enter Try.func71, Try.ntmps71
  go_wp2_with (fail)
  go_end0
  exact ⟨rfl, rfl⟩
theorem turn7_any (g2 o : Nat) (v : Value) (w : World) (h0 : w.cell? ⟨g2, o + 2, none⟩ = some v) (h1 : w.frozen? ⟨g2, o + 2, none⟩ = false) : Calls Try.prog 72 #[.pointer (some ⟨g2, o, none⟩)] w fun e w' => e = .returned (.tuple #[]) ∧ w' = w.setCell ⟨g2, o + 2, none⟩ (.bool false) := by
  go_enter Try.func72, Try.ntmps72
  go_wp2_with (fail)
  go_end0
  exact ⟨rfl, rfl⟩
theorem turn8_any (g2 o : Nat) (v : Value) (w : World) (h0 : w.cell? ⟨g2, o + 1, none⟩ = some v) (h1 : w.frozen? ⟨g2, o + 1, none⟩ = false) : Calls Try.prog 73 #[.pointer (some ⟨g2, o, none⟩)] w fun e w' => e = .returned (.tuple #[]) ∧ w' = w.setCell ⟨g2, o + 1, none⟩ (.bool false) := by
  go_enter Try.func73, Try.ntmps73
  go_wp2_with (fail)
  go_end0
  exact ⟨rfl, rfl⟩
theorem turn9_any (g2 o : Nat) (v : Value) (w : World) (h0 : w.cell? ⟨g2, o + 1, none⟩ = some v) (h1 : w.frozen? ⟨g2, o + 1, none⟩ = false) : Calls Try.prog 74 #[.pointer (some ⟨g2, o, none⟩)] w fun e w' => e = .returned (.tuple #[]) ∧ w' = w.setCell ⟨g2, o + 1, none⟩ (.bool true) := by
  go_enter Try.func74, Try.ntmps74
  go_wp2_with (fail)
  go_end0
  exact ⟨rfl, rfl⟩
set_option maxHeartbeats 3200000 in
theorem onNodeD6_any (A A2 : Option Addr) (n c m c2 base g : Nat) (k a b : Int) (x : Nat) (ns : List Nd) (ls : List Lk) (w : World) (hcb : CB w g (.slice A n c) (.slice A2 m c2) k a b x) (hn : w.ownsRow base 52 3 (.slice A n c) n (ns.flatMap ndC)) (hl : w.ownsRow base 54 4 (.slice A2 m c2) m (ls.flatMap lkC)) (hb : base ≤ w.heap.size) (hbg : base ≤ g) (hG : Good ns ls) (h : Nat) (hu : w.cell? ⟨h, 0, none⟩ = some (.func (.func 71) #[] #[])) (E : Int) (NS : List Nd) (hE : E = if hasN ns a = false then 4 else 0) (hLS : NS = if hasN ns a = true then modN ns a (turnN 6) else ns) :
    Calls Try.prog 91 #[.pointer (some ⟨g, 0, none⟩), .pointer (some ⟨h, 0, none⟩)] w (DPost base g k a b x A A2 n c m c2 E NS ls w) := by
  have HCB := Lib.hid hcb
  have HN := Lib.hid hn
  have HL := Lib.hid hl
  have HB0 := Lib.hid hb
  have HGD := Lib.hid hG
  have hnl : ns.length = n := (GN.of_own hn).1
  have hml : ls.length = m := (GL.of_own hl).1
  have hn256 : n ≤ 256 := by rw [← hnl]; exact hG.n
  have hm4096 : m ≤ 4096 := by rw [← hml]; exact hG.l
  have HE := Lib.hid hE
  have HLS := Lib.hid hLS
  clear hE hLS
  have ND := Lib.hid (fun w' (h : Below w.heap.size w w') => node_any A A2 n c m c2 ns a w' (((GN.of_own hn).below h).more h.size) hG.Rise (by omega))
  have CL := Lib.hid (fun h => cnt_id hG.Rise (x := a) h)
  obtain ⟨p0, f0⟩ := hcb.c0
  obtain ⟨p1, _⟩ := hcb.c1
  obtain ⟨p3, _⟩ := hcb.c3
  obtain ⟨p4, _⟩ := hcb.c4
  obtain ⟨p5, _⟩ := hcb.c5
  have hB := Below.refl w.heap.size w
  have hBd := hB.drew
  clear hcb hn hl hG
  go_enter Try.func91, Try.ntmps91
  go_wp2_with (fail)
  go_region_held3 (fun w' => w'.cell? ⟨g, 0, none⟩ = some (.slice A n c) ∧ w'.cell? ⟨g, 1, none⟩ = some (.slice A2 m c2) ∧ w'.cell? ⟨g, 3, none⟩ = some (.int .i64 a) ∧ w'.cell? ⟨g, 4, none⟩ = some (.int .i64 b) ∧ Below w.heap.size w w')
    (first | exact held_keep4 (by assumption) hb | go_keep)
    (first | (go_at_call 27; refine (ND.out _ (heldB4 (by assumption))).mono ?_; rintro z w' ⟨rfl, hb⟩))
  have H4 := Lib.hid (heldB4 (by assumption))
  have q0 := keep_cellG p0 H4.out
  have qu := keep_cellG hu H4.out
  clear hB hBd p0 p1 p3 p4 p5
  cases hh : hasN ns a
  · (try rw [hh])
    have eqv : 4 = E := Eq.symm (by rw [HE.out, hh]; rfl)
    subst eqv
    have eqv : ns = NS := Eq.symm (by rw [HLS.out, if_neg (by rw [hh]; decide)])
    subst eqv
    go_wp2_with (fail)
    go_ret
    exact dpost_same HCB.out HN.out HL.out HB0.out _ (by first | exact H4.out | exact below_drewN H4.out _ | exact below_drewN (below_drewN H4.out _) _ | exact (H4.out.drew))
  · obtain ⟨hlt, e1⟩ := CL.out hh
    clear e1
    (try rw [hh])
    have eqv : 0 = E := Eq.symm (by rw [HE.out, hh]; rfl)
    subst eqv
    have eqv : ns.set (cntN ns a) (turnN 6 (ndA ns (cntN ns a))) = NS := Eq.symm (by rw [HLS.out, if_pos hh]; rfl)
    subst eqv
    generalize cntN ns a = i at *
    obtain ⟨g2, hA⟩ : ∃ g2, A = some ⟨g2, 0, none⟩ := by
      rcases own_cases HN.out with ⟨_, h, _⟩ | ⟨g2, h, _⟩
      · omega
      · exact ⟨g2, h⟩
    subst hA
    have HCL := Lib.hid (own_below HN.out H4.out)
    have hidx : i < n := by omega
    obtain ⟨v0, hcc⟩ : ∃ v0, w'.cell? ⟨g2, i * 3 + 2, none⟩ = some v0 := by
      have := HCL.out.cellAt (i * 3 + 2) (by omega)
      rw [this]
      have hlen := HCL.out.1
      rw [List.getElem?_eq_getElem (by omega)]; exact ⟨_, rfl⟩
    have hff := HCL.out.frozenAt (i * 3 + 2)
    have HCC := Lib.hid (And.intro hcc hff)
    go_wp2_with (fail)
    go_region_law (first | (go_simp; go_at_call 71; refine (turn6_any g2 (i * 3) v0 _ (by exact HCC.out.1) (by exact HCC.out.2)).mono ?_; rintro e w3 ⟨rfl, rfl⟩))
    all_goals
      go_wp2_with (fail)
      go_ret
      first | exact dpost_setN (j := 2) (y := turnN 6 (ndA ns i)) HCB.out HN.out HL.out HB0.out (by first | exact H4.out | exact below_drewN H4.out _ | exact below_drewN (below_drewN H4.out _) _ | exact (H4.out.drew)) (by omega) (by decide) rfl | exact dpost_drewN (dpost_setN (j := 2) (y := turnN 6 (ndA ns i)) HCB.out HN.out HL.out HB0.out (by first | exact H4.out | exact below_drewN H4.out _ | exact below_drewN (below_drewN H4.out _) _ | exact (H4.out.drew)) (by omega) (by decide) rfl) _
set_option maxHeartbeats 3200000 in
theorem onNodeD7_any (A A2 : Option Addr) (n c m c2 base g : Nat) (k a b : Int) (x : Nat) (ns : List Nd) (ls : List Lk) (w : World) (hcb : CB w g (.slice A n c) (.slice A2 m c2) k a b x) (hn : w.ownsRow base 52 3 (.slice A n c) n (ns.flatMap ndC)) (hl : w.ownsRow base 54 4 (.slice A2 m c2) m (ls.flatMap lkC)) (hb : base ≤ w.heap.size) (hbg : base ≤ g) (hG : Good ns ls) (h : Nat) (hu : w.cell? ⟨h, 0, none⟩ = some (.func (.func 72) #[] #[])) (E : Int) (NS : List Nd) (hE : E = if hasN ns a = false then 4 else 0) (hLS : NS = if hasN ns a = true then modN ns a (turnN 7) else ns) :
    Calls Try.prog 91 #[.pointer (some ⟨g, 0, none⟩), .pointer (some ⟨h, 0, none⟩)] w (DPost base g k a b x A A2 n c m c2 E NS ls w) := by
  have HCB := Lib.hid hcb
  have HN := Lib.hid hn
  have HL := Lib.hid hl
  have HB0 := Lib.hid hb
  have HGD := Lib.hid hG
  have hnl : ns.length = n := (GN.of_own hn).1
  have hml : ls.length = m := (GL.of_own hl).1
  have hn256 : n ≤ 256 := by rw [← hnl]; exact hG.n
  have hm4096 : m ≤ 4096 := by rw [← hml]; exact hG.l
  have HE := Lib.hid hE
  have HLS := Lib.hid hLS
  clear hE hLS
  have ND := Lib.hid (fun w' (h : Below w.heap.size w w') => node_any A A2 n c m c2 ns a w' (((GN.of_own hn).below h).more h.size) hG.Rise (by omega))
  have CL := Lib.hid (fun h => cnt_id hG.Rise (x := a) h)
  obtain ⟨p0, f0⟩ := hcb.c0
  obtain ⟨p1, _⟩ := hcb.c1
  obtain ⟨p3, _⟩ := hcb.c3
  obtain ⟨p4, _⟩ := hcb.c4
  obtain ⟨p5, _⟩ := hcb.c5
  have hB := Below.refl w.heap.size w
  have hBd := hB.drew
  clear hcb hn hl hG
  go_enter Try.func91, Try.ntmps91
  go_wp2_with (fail)
  go_region_held3 (fun w' => w'.cell? ⟨g, 0, none⟩ = some (.slice A n c) ∧ w'.cell? ⟨g, 1, none⟩ = some (.slice A2 m c2) ∧ w'.cell? ⟨g, 3, none⟩ = some (.int .i64 a) ∧ w'.cell? ⟨g, 4, none⟩ = some (.int .i64 b) ∧ Below w.heap.size w w')
    (first | exact held_keep4 (by assumption) hb | go_keep)
    (first | (go_at_call 27; refine (ND.out _ (heldB4 (by assumption))).mono ?_; rintro z w' ⟨rfl, hb⟩))
  have H4 := Lib.hid (heldB4 (by assumption))
  have q0 := keep_cellG p0 H4.out
  have qu := keep_cellG hu H4.out
  clear hB hBd p0 p1 p3 p4 p5
  cases hh : hasN ns a
  · (try rw [hh])
    have eqv : 4 = E := Eq.symm (by rw [HE.out, hh]; rfl)
    subst eqv
    have eqv : ns = NS := Eq.symm (by rw [HLS.out, if_neg (by rw [hh]; decide)])
    subst eqv
    go_wp2_with (fail)
    go_ret
    exact dpost_same HCB.out HN.out HL.out HB0.out _ (by first | exact H4.out | exact below_drewN H4.out _ | exact below_drewN (below_drewN H4.out _) _ | exact (H4.out.drew))
  · obtain ⟨hlt, e1⟩ := CL.out hh
    clear e1
    (try rw [hh])
    have eqv : 0 = E := Eq.symm (by rw [HE.out, hh]; rfl)
    subst eqv
    have eqv : ns.set (cntN ns a) (turnN 7 (ndA ns (cntN ns a))) = NS := Eq.symm (by rw [HLS.out, if_pos hh]; rfl)
    subst eqv
    generalize cntN ns a = i at *
    obtain ⟨g2, hA⟩ : ∃ g2, A = some ⟨g2, 0, none⟩ := by
      rcases own_cases HN.out with ⟨_, h, _⟩ | ⟨g2, h, _⟩
      · omega
      · exact ⟨g2, h⟩
    subst hA
    have HCL := Lib.hid (own_below HN.out H4.out)
    have hidx : i < n := by omega
    obtain ⟨v0, hcc⟩ : ∃ v0, w'.cell? ⟨g2, i * 3 + 2, none⟩ = some v0 := by
      have := HCL.out.cellAt (i * 3 + 2) (by omega)
      rw [this]
      have hlen := HCL.out.1
      rw [List.getElem?_eq_getElem (by omega)]; exact ⟨_, rfl⟩
    have hff := HCL.out.frozenAt (i * 3 + 2)
    have HCC := Lib.hid (And.intro hcc hff)
    go_wp2_with (fail)
    go_region_law (first | (go_simp; go_at_call 72; refine (turn7_any g2 (i * 3) v0 _ (by exact HCC.out.1) (by exact HCC.out.2)).mono ?_; rintro e w3 ⟨rfl, rfl⟩))
    all_goals
      go_wp2_with (fail)
      go_ret
      first | exact dpost_setN (j := 2) (y := turnN 7 (ndA ns i)) HCB.out HN.out HL.out HB0.out (by first | exact H4.out | exact below_drewN H4.out _ | exact below_drewN (below_drewN H4.out _) _ | exact (H4.out.drew)) (by omega) (by decide) rfl | exact dpost_drewN (dpost_setN (j := 2) (y := turnN 7 (ndA ns i)) HCB.out HN.out HL.out HB0.out (by first | exact H4.out | exact below_drewN H4.out _ | exact below_drewN (below_drewN H4.out _) _ | exact (H4.out.drew)) (by omega) (by decide) rfl) _
set_option maxHeartbeats 3200000 in
theorem onNodeD8_any (A A2 : Option Addr) (n c m c2 base g : Nat) (k a b : Int) (x : Nat) (ns : List Nd) (ls : List Lk) (w : World) (hcb : CB w g (.slice A n c) (.slice A2 m c2) k a b x) (hn : w.ownsRow base 52 3 (.slice A n c) n (ns.flatMap ndC)) (hl : w.ownsRow base 54 4 (.slice A2 m c2) m (ls.flatMap lkC)) (hb : base ≤ w.heap.size) (hbg : base ≤ g) (hG : Good ns ls) (h : Nat) (hu : w.cell? ⟨h, 0, none⟩ = some (.func (.func 73) #[] #[])) (E : Int) (NS : List Nd) (hE : E = if hasN ns a = false then 4 else 0) (hLS : NS = if hasN ns a = true then modN ns a (turnN 8) else ns) :
    Calls Try.prog 91 #[.pointer (some ⟨g, 0, none⟩), .pointer (some ⟨h, 0, none⟩)] w (DPost base g k a b x A A2 n c m c2 E NS ls w) := by
  have HCB := Lib.hid hcb
  have HN := Lib.hid hn
  have HL := Lib.hid hl
  have HB0 := Lib.hid hb
  have HGD := Lib.hid hG
  have hnl : ns.length = n := (GN.of_own hn).1
  have hml : ls.length = m := (GL.of_own hl).1
  have hn256 : n ≤ 256 := by rw [← hnl]; exact hG.n
  have hm4096 : m ≤ 4096 := by rw [← hml]; exact hG.l
  have HE := Lib.hid hE
  have HLS := Lib.hid hLS
  clear hE hLS
  have ND := Lib.hid (fun w' (h : Below w.heap.size w w') => node_any A A2 n c m c2 ns a w' (((GN.of_own hn).below h).more h.size) hG.Rise (by omega))
  have CL := Lib.hid (fun h => cnt_id hG.Rise (x := a) h)
  obtain ⟨p0, f0⟩ := hcb.c0
  obtain ⟨p1, _⟩ := hcb.c1
  obtain ⟨p3, _⟩ := hcb.c3
  obtain ⟨p4, _⟩ := hcb.c4
  obtain ⟨p5, _⟩ := hcb.c5
  have hB := Below.refl w.heap.size w
  have hBd := hB.drew
  clear hcb hn hl hG
  go_enter Try.func91, Try.ntmps91
  go_wp2_with (fail)
  go_region_held3 (fun w' => w'.cell? ⟨g, 0, none⟩ = some (.slice A n c) ∧ w'.cell? ⟨g, 1, none⟩ = some (.slice A2 m c2) ∧ w'.cell? ⟨g, 3, none⟩ = some (.int .i64 a) ∧ w'.cell? ⟨g, 4, none⟩ = some (.int .i64 b) ∧ Below w.heap.size w w')
    (first | exact held_keep4 (by assumption) hb | go_keep)
    (first | (go_at_call 27; refine (ND.out _ (heldB4 (by assumption))).mono ?_; rintro z w' ⟨rfl, hb⟩))
  have H4 := Lib.hid (heldB4 (by assumption))
  have q0 := keep_cellG p0 H4.out
  have qu := keep_cellG hu H4.out
  clear hB hBd p0 p1 p3 p4 p5
  cases hh : hasN ns a
  · (try rw [hh])
    have eqv : 4 = E := Eq.symm (by rw [HE.out, hh]; rfl)
    subst eqv
    have eqv : ns = NS := Eq.symm (by rw [HLS.out, if_neg (by rw [hh]; decide)])
    subst eqv
    go_wp2_with (fail)
    go_ret
    exact dpost_same HCB.out HN.out HL.out HB0.out _ (by first | exact H4.out | exact below_drewN H4.out _ | exact below_drewN (below_drewN H4.out _) _ | exact (H4.out.drew))
  · obtain ⟨hlt, e1⟩ := CL.out hh
    clear e1
    (try rw [hh])
    have eqv : 0 = E := Eq.symm (by rw [HE.out, hh]; rfl)
    subst eqv
    have eqv : ns.set (cntN ns a) (turnN 8 (ndA ns (cntN ns a))) = NS := Eq.symm (by rw [HLS.out, if_pos hh]; rfl)
    subst eqv
    generalize cntN ns a = i at *
    obtain ⟨g2, hA⟩ : ∃ g2, A = some ⟨g2, 0, none⟩ := by
      rcases own_cases HN.out with ⟨_, h, _⟩ | ⟨g2, h, _⟩
      · omega
      · exact ⟨g2, h⟩
    subst hA
    have HCL := Lib.hid (own_below HN.out H4.out)
    have hidx : i < n := by omega
    obtain ⟨v0, hcc⟩ : ∃ v0, w'.cell? ⟨g2, i * 3 + 1, none⟩ = some v0 := by
      have := HCL.out.cellAt (i * 3 + 1) (by omega)
      rw [this]
      have hlen := HCL.out.1
      rw [List.getElem?_eq_getElem (by omega)]; exact ⟨_, rfl⟩
    have hff := HCL.out.frozenAt (i * 3 + 1)
    have HCC := Lib.hid (And.intro hcc hff)
    go_wp2_with (fail)
    go_region_law (first | (go_simp; go_at_call 73; refine (turn8_any g2 (i * 3) v0 _ (by exact HCC.out.1) (by exact HCC.out.2)).mono ?_; rintro e w3 ⟨rfl, rfl⟩))
    all_goals
      go_wp2_with (fail)
      go_ret
      first | exact dpost_setN (j := 1) (y := turnN 8 (ndA ns i)) HCB.out HN.out HL.out HB0.out (by first | exact H4.out | exact below_drewN H4.out _ | exact below_drewN (below_drewN H4.out _) _ | exact (H4.out.drew)) (by omega) (by decide) rfl | exact dpost_drewN (dpost_setN (j := 1) (y := turnN 8 (ndA ns i)) HCB.out HN.out HL.out HB0.out (by first | exact H4.out | exact below_drewN H4.out _ | exact below_drewN (below_drewN H4.out _) _ | exact (H4.out.drew)) (by omega) (by decide) rfl) _
set_option maxHeartbeats 3200000 in
theorem onNodeD9_any (A A2 : Option Addr) (n c m c2 base g : Nat) (k a b : Int) (x : Nat) (ns : List Nd) (ls : List Lk) (w : World) (hcb : CB w g (.slice A n c) (.slice A2 m c2) k a b x) (hn : w.ownsRow base 52 3 (.slice A n c) n (ns.flatMap ndC)) (hl : w.ownsRow base 54 4 (.slice A2 m c2) m (ls.flatMap lkC)) (hb : base ≤ w.heap.size) (hbg : base ≤ g) (hG : Good ns ls) (h : Nat) (hu : w.cell? ⟨h, 0, none⟩ = some (.func (.func 74) #[] #[])) (E : Int) (NS : List Nd) (hE : E = if hasN ns a = false then 4 else 0) (hLS : NS = if hasN ns a = true then modN ns a (turnN 9) else ns) :
    Calls Try.prog 91 #[.pointer (some ⟨g, 0, none⟩), .pointer (some ⟨h, 0, none⟩)] w (DPost base g k a b x A A2 n c m c2 E NS ls w) := by
  have HCB := Lib.hid hcb
  have HN := Lib.hid hn
  have HL := Lib.hid hl
  have HB0 := Lib.hid hb
  have HGD := Lib.hid hG
  have hnl : ns.length = n := (GN.of_own hn).1
  have hml : ls.length = m := (GL.of_own hl).1
  have hn256 : n ≤ 256 := by rw [← hnl]; exact hG.n
  have hm4096 : m ≤ 4096 := by rw [← hml]; exact hG.l
  have HE := Lib.hid hE
  have HLS := Lib.hid hLS
  clear hE hLS
  have ND := Lib.hid (fun w' (h : Below w.heap.size w w') => node_any A A2 n c m c2 ns a w' (((GN.of_own hn).below h).more h.size) hG.Rise (by omega))
  have CL := Lib.hid (fun h => cnt_id hG.Rise (x := a) h)
  obtain ⟨p0, f0⟩ := hcb.c0
  obtain ⟨p1, _⟩ := hcb.c1
  obtain ⟨p3, _⟩ := hcb.c3
  obtain ⟨p4, _⟩ := hcb.c4
  obtain ⟨p5, _⟩ := hcb.c5
  have hB := Below.refl w.heap.size w
  have hBd := hB.drew
  clear hcb hn hl hG
  go_enter Try.func91, Try.ntmps91
  go_wp2_with (fail)
  go_region_held3 (fun w' => w'.cell? ⟨g, 0, none⟩ = some (.slice A n c) ∧ w'.cell? ⟨g, 1, none⟩ = some (.slice A2 m c2) ∧ w'.cell? ⟨g, 3, none⟩ = some (.int .i64 a) ∧ w'.cell? ⟨g, 4, none⟩ = some (.int .i64 b) ∧ Below w.heap.size w w')
    (first | exact held_keep4 (by assumption) hb | go_keep)
    (first | (go_at_call 27; refine (ND.out _ (heldB4 (by assumption))).mono ?_; rintro z w' ⟨rfl, hb⟩))
  have H4 := Lib.hid (heldB4 (by assumption))
  have q0 := keep_cellG p0 H4.out
  have qu := keep_cellG hu H4.out
  clear hB hBd p0 p1 p3 p4 p5
  cases hh : hasN ns a
  · (try rw [hh])
    have eqv : 4 = E := Eq.symm (by rw [HE.out, hh]; rfl)
    subst eqv
    have eqv : ns = NS := Eq.symm (by rw [HLS.out, if_neg (by rw [hh]; decide)])
    subst eqv
    go_wp2_with (fail)
    go_ret
    exact dpost_same HCB.out HN.out HL.out HB0.out _ (by first | exact H4.out | exact below_drewN H4.out _ | exact below_drewN (below_drewN H4.out _) _ | exact (H4.out.drew))
  · obtain ⟨hlt, e1⟩ := CL.out hh
    clear e1
    (try rw [hh])
    have eqv : 0 = E := Eq.symm (by rw [HE.out, hh]; rfl)
    subst eqv
    have eqv : ns.set (cntN ns a) (turnN 9 (ndA ns (cntN ns a))) = NS := Eq.symm (by rw [HLS.out, if_pos hh]; rfl)
    subst eqv
    generalize cntN ns a = i at *
    obtain ⟨g2, hA⟩ : ∃ g2, A = some ⟨g2, 0, none⟩ := by
      rcases own_cases HN.out with ⟨_, h, _⟩ | ⟨g2, h, _⟩
      · omega
      · exact ⟨g2, h⟩
    subst hA
    have HCL := Lib.hid (own_below HN.out H4.out)
    have hidx : i < n := by omega
    obtain ⟨v0, hcc⟩ : ∃ v0, w'.cell? ⟨g2, i * 3 + 1, none⟩ = some v0 := by
      have := HCL.out.cellAt (i * 3 + 1) (by omega)
      rw [this]
      have hlen := HCL.out.1
      rw [List.getElem?_eq_getElem (by omega)]; exact ⟨_, rfl⟩
    have hff := HCL.out.frozenAt (i * 3 + 1)
    have HCC := Lib.hid (And.intro hcc hff)
    go_wp2_with (fail)
    go_region_law (first | (go_simp; go_at_call 74; refine (turn9_any g2 (i * 3) v0 _ (by exact HCC.out.1) (by exact HCC.out.2)).mono ?_; rintro e w3 ⟨rfl, rfl⟩))
    all_goals
      go_wp2_with (fail)
      go_ret
      first | exact dpost_setN (j := 1) (y := turnN 9 (ndA ns i)) HCB.out HN.out HL.out HB0.out (by first | exact H4.out | exact below_drewN H4.out _ | exact below_drewN (below_drewN H4.out _) _ | exact (H4.out.drew)) (by omega) (by decide) rfl | exact dpost_drewN (dpost_setN (j := 1) (y := turnN 9 (ndA ns i)) HCB.out HN.out HL.out HB0.out (by first | exact H4.out | exact below_drewN H4.out _ | exact below_drewN (below_drewN H4.out _) _ | exact (H4.out.drew)) (by omega) (by decide) rfl) _

end Go.Proofs.Ytgmljlgoaifneaa
