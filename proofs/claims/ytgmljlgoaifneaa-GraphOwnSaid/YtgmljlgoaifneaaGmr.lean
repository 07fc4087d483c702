/- The walk of the reference's Neighbours. Conditions: slices of less than 2^43 elements. The walk of graph.Neighbours, over what its sort does. Conditions: as each theorem's hypotheses say. -/
import Derived.Test.YtgmljlgoaifneaaGmb
import Derived.Test.YtgmljlgoaifneaaGra
import Derived.Test.YtgmljlgoaifneaaGlv
import Derived.Test.YtgmljlgoaifneaaGrc
import Derived.Test.YtgmljlgoaifneaaGen
import Derived.Test.YtgmljlgoaifneaaGcp
import Derived.BigQuiet
import Derived.Deep.RegionHeld3
import Derived.Laws.MakeOwn
import Derived.Test.YtgmljlgoaifneaaGck
namespace Go.Proofs.Ytgmljlgoaifneaa
open Go.RowKit Flt Go.Mem Go.Lib
set_option linter.unusedVariables false

attribute [local go_sem] run_store_float
set_option maxHeartbeats 6400000
set_option maxRecDepth 100000
/-- why a router's links are not told; its links -/
def nbE (ns : List Nd) (ls : List Lk) (id : Int) : Int := if chkG ns ls = 0 then (if hasN ns id = false then 4 else 0) else chkG ns ls
def nbL (ns : List Nd) (ls : List Lk) (id : Int) : List Lk := if nbE ns ls id = 0 then ns.filterMap (nbF ns ls id) else []
theorem fm_take {ns : List Nd} {f : Nd → Option Lk} {i : Nat} (h : i < ns.length) : (ns.take (i + 1)).filterMap f = (ns.take i).filterMap f ++ (match f (ndA ns i) with | none => [] | some y => [y]) := by
  rw [take_nd h, List.filterMap_append]
  congr 1
  cases hf : f (ndA ns i) <;> simp [hf]
theorem fm_len {ns : List Nd} {f : Nd → Option Lk} {i : Nat} : ((ns.take i).filterMap f).length ≤ i := Nat.le_trans (List.length_filterMap_le _ _) (by simp; omega)
theorem rnb_any (A A2 : Option Addr) (n c m c2 : Nat) (id : Int) (ns : List Nd) (ls : List Lk) (w : World) (hg : GN w w.heap.size A n ns) (hl : GL w w.heap.size A2 m ls) (hw : ∀ i, i < m → (lkA ls i).w < 18446744073709551616) (hn : n ≤ 1152921504606846976) (hm : m ≤ 1152921504606846976) :
    Calls Try.prog 24 #[.agg #[.slice A n c, .slice A2 m c2], .int .i64 id] w fun e w' => ∃ B k d, e = .returned (.tuple #[.slice B k d, .int .i64 (nbE ns ls id)]) ∧ w'.ownsRow w.heap.size 54 4 (.slice B k d) k ((nbL ns ls id).flatMap lkC) ∧ Below w.heap.size w w' := by
  obtain ⟨iL, hiL, hzL0, hzL1, hzL2⟩ := info_partsG infoLK
  obtain ⟨E, hE⟩ : ∃ E, E = nbE ns ls id := ⟨_, rfl⟩
  obtain ⟨LS, hLS⟩ : ∃ E, E = nbL ns ls id := ⟨_, rfl⟩
  rw [← hE, ← hLS]
  have HE := Lib.hid hE
  have HLS := Lib.hid (show LS = if E = 0 then ns.filterMap (nbF ns ls id) else [] by rw [hLS, hE]; rfl)
  have HN := Lib.hid hg
  have HL := Lib.hid hl
  have CK := Lib.hid (fun w' (h : Below w.heap.size w w') => rcheck_any A A2 n c m c2 ns ls w' ((hg.below h).more h.size) ((hl.below h).more h.size) hw hn hm)
  have hnl : ns.length = n := hg.1
  have hml : ls.length = m := hl.1
  clear hE hLS hg hl hw
  have hX0 := Go.heap_alloc_new w (.cells #[.slice A n c, .slice A2 m c2] 25)
  have hB0 := (Below.refl w.heap.size w).alloc (Nat.le_refl _) (.cells #[.slice A n c, .slice A2 m c2] 25)
  go_enter Try.func24, Try.ntmps24
  go_upto_region 1 with fail
  generalize w.alloc (.cells #[.slice A n c, .slice A2 m c2] 25) = w1 at *
  have HG0 := Lib.hid (show GB w1 w.heap.size (.slice A n c) (.slice A2 m c2) from hX0)
  have HB0 := Lib.hid hB0
  clear hX0 hB0
  have GAT := Lib.hid (fun w' (h : Below w.heap.size w w') => (⟨(HN.out.below h).more h.size, (HL.out.below h).more h.size⟩ : GN w' w'.heap.size A n ns ∧ GL w' w'.heap.size A2 m ls))
  have e0 := HG0.out.c0.1
  have e1 := HG0.out.c1.1
  go_wp2_with (fail)
  refine (CK.out _ HB0.out).mono ?_
  rintro e w2 ⟨rfl, hb⟩
  have hs0 : w.heap.size ≤ w1.heap.size := HB0.out.size
  have HB2 := Lib.hid (HB0.out.trans (hb.mono hs0))
  have HG2 := Lib.hid (HG0.out.below hb HG0.out.lt)
  clear hb e0 e1
  have e0 := HG2.out.c0.1
  have e1 := HG2.out.c1.1
  by_cases hc0 : chkG ns ls = 0
  rotate_left
  · have hE2 : E = chkG ns ls := HE.out.trans (if_neg hc0)
    have hE0 : ¬ E = 0 := by rw [hE2]; exact hc0
    rw [← hE2]
    have eqv : [] = LS := Eq.symm (HLS.out.trans (if_neg hE0))
    subst eqv
    clear hE2 hc0
    go_wp2_with (fail)
    go_ret2
    exact ⟨none, 0, 0, rfl, World.ownsRow_nil _ _ _ _, HB2.out⟩
  have HGD := Lib.hid (good_of hc0)
  have HE2 := Lib.hid (show E = if hasN ns id = false then 4 else 0 from HE.out.trans (if_pos hc0))
  rw [hc0]
  clear hc0
  have hs2 : w.heap.size ≤ w2.heap.size := HB2.out.size
  cases hh : hasN ns id
  · have eqv : 4 = E := Eq.symm (HE2.out.trans (by rw [hh]; rfl))
    subst eqv
    have eqv : [] = LS := Eq.symm (HLS.out.trans (if_neg (by decide)))
    subst eqv
    go_wp2_with (fail)
    refine (place_no (GAT.out _ HB2.out).1 (by omega) hh).mono ?_
    rintro e w3 ⟨rfl, hb⟩
    go_wp2_with (fail)
    go_ret2
    exact ⟨none, 0, 0, rfl, World.ownsRow_nil _ _ _ _, HB2.out.trans (hb.mono hs2)⟩
  have eqv : 0 = E := Eq.symm (HE2.out.trans (by rw [hh]; rfl))
  subst eqv
  have eqv : ns.filterMap (nbF ns ls id) = LS := Eq.symm (HLS.out.trans (if_pos rfl))
  subst eqv
  go_wp2_with (fail)
  refine (place_yes (GAT.out _ HB2.out).1 (by omega) hh).mono ?_
  rintro e w3 ⟨p0, rfl, _, _, hb⟩
  have hp0 : ¬ ((p0 : Int) < 0) := by omega
  have HB3 := Lib.hid (HB2.out.trans (hb.mono hs2))
  have HG3 := Lib.hid (HG2.out.below hb HG2.out.lt)
  clear hb e0 e1
  have hg3l := HG3.out.lt
  have hn256 : n ≤ 256 := by rw [← hnl]; exact HGD.out.n
  have hO0 := World.ownsRow_lit (e := 54) (size := 4) (base := w.heap.size + 1) w3 #[] 0 (by omega) (by unfold maxLen; omega) rfl
  have HO0 := Lib.hid hO0
  have HB4 := Lib.hid (HB3.out.alloc (Nat.le_of_lt hg3l) (.cells #[] 54))
  have HG4 := Lib.hid (HG3.out.alloc (.cells #[] 54))
  clear hO0
  go_upto_region 8 with fail
  have HO4 : Hid ((w3.alloc (.cells #[] 54)).ownsRow (w.heap.size + 1) 54 4 (.slice (some ⟨w3.heap.size, 0, none⟩) 0 0) 0 []) := Lib.hid (by simpa using HO0.out)
  generalize w3.alloc (.cells #[] 54) = wS at *
  have hS4 : w.heap.size + 1 ≤ wS.heap.size := HG4.out.lt
  go_loopw [7, 8] (fun pv iv wr => ∃ (i k : Nat), i ≤ n ∧ iv = .int .i64 i ∧ Hid (k = ((ns.take i).filterMap (nbF ns ls id)).length) ∧ Hid (wr.ownsRow (w.heap.size + 1) 54 4 pv k (((ns.take i).filterMap (nbF ns ls id)).flatMap lkC)) ∧ Hid (Below (w.heap.size + 1) wS wr)) (fun _ iv _ => n - (intOf iv).toNat)
  case atStart => exact ⟨0, 0, Nat.zero_le _, rfl, Lib.hid (by simp), Lib.hid (by simpa using HO4.out), Lib.hid (Below.refl _ _)⟩
  case round =>
    obtain ⟨i, k, hi, rfl, HK, HOW, HB⟩ := hrel
    obtain ⟨A1, d1, rfl⟩ := own_form HOW.out
    obtain ⟨wa, rfl⟩ : ∃ wa : World, wa = wr := ⟨_, rfl⟩
    have HC0 := Lib.hid (HG4.out.below HB.out (Nat.lt_succ_self _))
    have e00 := HC0.out.c0.1
    have e01 := HC0.out.c1.1
    have HWA := Lib.hid (HB4.out.trans (HB.out.mono (Nat.le_succ _)))
    have hwa : w.heap.size + 1 ≤ wa.heap.size := Nat.le_trans hS4 HB.out.size
    by_cases hin : i < n
    · obtain ⟨b, off, rfl, hbl, hc⟩ := HN.out.at (by omega)
      obtain ⟨c0, c1, c2'⟩ := hc i hin
      have d0 := (HWA.out.cell (p := ⟨b, off + i * 3, none⟩) hbl).trans c0
      have HFM := Lib.hid (fm_take (ns := ns) (f := nbF ns ls id) (i := i) (by omega))
      have hkl : k ≤ 256 := by have := fm_len (ns := ns) (f := nbF ns ls id) (i := i); have := HK.out; omega
      obtain ⟨x, hx⟩ : ∃ x, x = ndA ns i := ⟨_, rfl⟩
      rw [← hx] at d0 HFM
      obtain ⟨xi, xu, xm⟩ := x
      clear hc c0 c1 c2' hx
      have hBd := (Below.refl wa.heap.size wa).drew
      have GA2 := Lib.hid (fun w' (h : Below wa.heap.size wa w') => GAT.out w' (HWA.out.trans (h.mono HWA.out.size)))
      cases hA : hasL ls (lkT id xi)
      · have HLN := Lib.hid (fun w' (h : Below wa.heap.size wa w') => rlink_no (A := some ⟨b, off, none⟩) (n := n) (c := c) (c2 := c2) (GA2.out w' h).2 HGD.out.RiseL (by omega) hA)
        have HFN := Lib.hid (show (ns.take (i + 1)).filterMap (nbF ns ls id) = (ns.take i).filterMap (nbF ns ls id) by rw [HFM.out]; unfold nbF; rw [if_neg (by rw [hA]; rintro ⟨h, _⟩; cases h)]; simp)
        go_wp2_with (fail)
        go_region_held3 (fun w' => w'.cell? ⟨w.heap.size, 0, none⟩ = some (.slice (some ⟨b, off, none⟩) n c) ∧ w'.cell? ⟨w.heap.size, 1, none⟩ = some (.slice A2 m c2) ∧ w'.cell? ⟨b, off + i * 3, none⟩ = some (.int .i64 xi) ∧ Below wa.heap.size wa w')
          (first | exact held_keep3 (by assumption) hb | exact ⟨e00, e01, d0, hBd⟩ | go_keep)
          (first | (go_at_call 39; refine (HLN.out _ (heldB3 (by assumption))).mono ?_; rintro e w' ⟨rfl, hb⟩))
        have HB5 := Lib.hid (heldB3 (by assumption))
        go_wp2_with (fail)
        go_quiet (fail)
        go_wp2_with (fail)
        go_roundw
        case rel => exact ⟨i + 1, k, by omega, by go_num, Lib.hid (by rw [HFN.out]; exact HK.out), Lib.hid (by rw [HFN.out]; first | exact own_below HOW.out HB5.out | exact own_drewN (own_below HOW.out HB5.out) _), Lib.hid (by first | exact HB.out.trans (HB5.out.mono hwa) | exact below_drewN (HB.out.trans (HB5.out.mono hwa)) _)⟩
        case measure => simp [intOf]; omega
      · have HLN := Lib.hid (fun w' (h : Below wa.heap.size wa w') => rlink_yes (A := some ⟨b, off, none⟩) (n := n) (c := c) (c2 := c2) (GA2.out w' h).2 HGD.out.RiseL (by omega) hA)
        have hcj := cnt_lk HGD.out.RiseL hA
        have HFN := Lib.hid (show nbF ns ls id ⟨xi, xu, xm⟩ = if liveL ns (lkA ls (cntL ls (lkT id xi))) = true then some (lkA ls (cntL ls (lkT id xi))) else none by unfold nbF; simp only [hA, true_and])
        clear hA
        generalize cntL ls (lkT id xi) = j at *
        have hjm : j < m := by omega
        clear hcj
        obtain ⟨b2, off2, rfl, hbl2, hc2⟩ := HL.out.at (by omega)
        obtain ⟨q0, q1, q2, q3⟩ := hc2 j hjm
        have f0 := (HWA.out.cell (p := ⟨b2, off2 + j * 4, none⟩) hbl2).trans q0
        have f1 := (HWA.out.cell (p := ⟨b2, off2 + (j * 4 + 1), none⟩) hbl2).trans q1
        have f2 := (HWA.out.cell (p := ⟨b2, off2 + (j * 4 + 2), none⟩) hbl2).trans q2
        have f3 := (HWA.out.cell (p := ⟨b2, off2 + (j * 4 + 3), none⟩) hbl2).trans q3
        rw [← Nat.add_assoc] at f1 f2 f3
        have hends := HGD.out.ends (lkA ls j) (by rw [lkA_get (by omega)]; exact List.getElem_mem _)
        obtain ⟨y, hy⟩ : ∃ y, y = lkA ls j := ⟨_, rfl⟩
        rw [← hy] at f0 f1 f2 f3 HFN hends
        have RLV := Lib.hid (fun w' (h : Below wa.heap.size wa w') => rlive_any (some ⟨b, off, none⟩) (some ⟨b2, off2, none⟩) n c m c2 ns y w' (GA2.out w' h).1 HGD.out.Rise (by omega) hends.1 hends.2.1)
        clear hc2 q0 q1 q2 q3 hy hends
        obtain ⟨ya, yb, yw, yu⟩ := y
        obtain ⟨lv, hlv⟩ : ∃ lv, lv = liveL ns ⟨ya, yb, yw, yu⟩ := ⟨_, rfl⟩
        rw [← hlv] at RLV HFN
        clear hlv
        go_wp2_with (fail)
        go_region_held3 (fun w' => w'.cell? ⟨w.heap.size, 0, none⟩ = some (.slice (some ⟨b, off, none⟩) n c) ∧ w'.cell? ⟨w.heap.size, 1, none⟩ = some (.slice (some ⟨b2, off2, none⟩) m c2) ∧ w'.cell? ⟨b, off + i * 3, none⟩ = some (.int .i64 xi) ∧ Below wa.heap.size wa w')
          (first | exact held_keep3 (by assumption) hb | exact ⟨e00, e01, d0, hBd⟩ | go_keep)
          (first | (go_at_call 39; refine (HLN.out _ (heldB3 (by assumption))).mono ?_; rintro e w' ⟨rfl, hb⟩))
        have HB5 := Lib.hid (heldB3 (by assumption))
        have h00 := keep_cellG e00 HB5.out
        have h01 := keep_cellG e01 HB5.out
        have k0 := keep_cellG f0 HB5.out
        have k1 := keep_cellG f1 HB5.out
        have k2 := keep_cellG f2 HB5.out
        have k3 := keep_cellG f3 HB5.out
        have hBd2 := HB5.out.drew
        clear hBd
        have hj0 : (0 : Int) ≤ (j : Int) := by omega
        go_wp2_with (fail)
        go_region_held3 (fun w' => w'.cell? ⟨w.heap.size, 0, none⟩ = some (.slice (some ⟨b, off, none⟩) n c) ∧ w'.cell? ⟨w.heap.size, 1, none⟩ = some (.slice (some ⟨b2, off2, none⟩) m c2) ∧ w'.cell? ⟨b2, off2 + j * 4, none⟩ = some (.int .i64 ya) ∧ w'.cell? ⟨b2, off2 + j * 4 + 1, none⟩ = some (.int .i64 yb) ∧ w'.cell? ⟨b2, off2 + j * 4 + 2, none⟩ = some (.float .f64 yw) ∧ w'.cell? ⟨b2, off2 + j * 4 + 3, none⟩ = some (.bool yu) ∧ Below wa.heap.size wa w')
          (first | exact held_keep6 (by assumption) hb | exact ⟨h00, h01, k0, k1, k2, k3, hBd2⟩ | go_keep)
          (first | (go_at_call 41; refine (RLV.out _ (heldB6 (by assumption))).mono ?_; rintro e w'' ⟨rfl, hb⟩))
        have HB6 := Lib.hid (heldB6 (by assumption))
        have m01 := keep_cellG e01 HB6.out
        have n0 := keep_cellG f0 HB6.out
        have n1 := keep_cellG f1 HB6.out
        have n2 := keep_cellG f2 HB6.out
        have n3 := keep_cellG f3 HB6.out
        have HOW6 := Lib.hid (own_below HOW.out HB6.out)
        have HBS6 := Lib.hid (Nat.le_trans hwa HB6.out.size)
        have HBT6 := Lib.hid (HB.out.trans (HB6.out.mono hwa))
        clear h00 h01 k0 k1 k2 k3 hBd2 e00 e01 d0 f0 f1 f2 f3
        cases lv
        · have HF2 := Lib.hid (show (ns.take (i + 1)).filterMap (nbF ns ls id) = (ns.take i).filterMap (nbF ns ls id) by rw [HFM.out, HFN.out]; simp)
          go_wp2_with (fail)
          go_roundw
          case rel => exact ⟨i + 1, k, by omega, by go_num, Lib.hid (by rw [HF2.out]; exact HK.out), Lib.hid (by rw [HF2.out]; first | exact HOW6.out | exact own_drewN HOW6.out _), Lib.hid (by first | exact HBT6.out | exact below_drewN HBT6.out _)⟩
          case measure => simp [intOf]; omega
        · have HF2 := Lib.hid (show (ns.take (i + 1)).filterMap (nbF ns ls id) = (ns.take i).filterMap (nbF ns ls id) ++ [⟨ya, yb, yw, yu⟩] by rw [HFM.out, HFN.out]; simp)
          go_wp2_with (at_builtin; refine wpList_append_one rfl (.tmp 47) (.tmp 53) 23 rfl (w.heap.size + 1) 54 iL (.agg #[.int .i64 0, .int .i64 0, .float .f64 0, .bool false]) 4 32 Try.underlying23 hiL hzL0 hzL1 hzL2 rfl (by decide) (by decide) (.slice A1 k d1) k (((ns.take i).filterMap (nbF ns ls id)).flatMap lkC) rfl (by first | exact HOW6.out | exact own_drewN HOW6.out _) (lkC ⟨ya, yb, yw, yu⟩) rfl (oneL _) 54 1 (by simp [Act.eval]) (by omega) (by exact HBS6.out) ?_; intro v9 w9 hown9 hbel9; obtain ⟨A9, d9, rfl⟩ := own_form hown9; have HO9 := Lib.hid hown9; have HB9 := Lib.hid (hbel9 (w.heap.size + 1) _ (by first | exact HBT6.out | exact below_drewN HBT6.out _) (Nat.le_refl _)); clear hown9 hbel9)
          go_roundw
          case rel => exact ⟨i + 1, k + 1, by omega, by go_num, Lib.hid (by rw [HF2.out, List.length_append, ← HK.out]; rfl), Lib.hid (by rw [HF2.out, List.flatMap_append]; simpa using HO9.out), Lib.hid HB9.out⟩
          case measure => simp [intOf]; omega
    · obtain rfl : i = n := by omega
      go_wp2_with (fail)
      go_ret2
      exact ⟨A1, k, d1, rfl, by have q := HOW.out; rw [List.take_of_length_le (by omega)] at q; exact own_mono q (Nat.le_succ _), HWA.out⟩

end Go.Proofs.Ytgmljlgoaifneaa

namespace Go.Proofs.Ytgmljlgoaifneaa
open Go.RowKit Flt Go.Mem Go.Lib
set_option linter.unusedVariables false

attribute [local go_sem] run_store_float
set_option maxHeartbeats 6400000
set_option maxRecDepth 100000
/-- what the sort of links does to a row of the caller's own -/
def SortsLk (ls : List Lk) (ns : List Nd) (id : Int) : Prop := ∀ (A : Option Addr) (k d base : Nat) (w : World), w.ownsRow base 54 4 (.slice A k d) k ((ls.filter (nbP ns id)).flatMap lkC) → k ≤ 4096 →
  Calls Try.prog 42 #[.slice A k d, .func (.func 43) #[] #[]] w fun e w' => e = .returned (.tuple #[]) ∧ w'.ownsRow base 54 4 (.slice A k d) k ((ns.filterMap (nbF ns ls id)).flatMap lkC) ∧ Below base w w'
theorem gnb_any (A A2 : Option Addr) (n c m c2 : Nat) (id : Int) (ns : List Nd) (ls : List Lk) (w : World) (hg : GN w w.heap.size A n ns) (hl : GL w w.heap.size A2 m ls) (hw : ∀ i, i < m → (lkA ls i).w < 18446744073709551616) (hn : n ≤ 1152921504606846976) (hm : m ≤ 1152921504606846976) (hs : Good ns ls → SortsLk ls ns id) :
    Calls Try.prog 23 #[.agg #[.slice A n c, .slice A2 m c2], .int .i64 id] w fun e w' => ∃ B k d, e = .returned (.tuple #[.slice B k d, .int .i64 (nbE ns ls id)]) ∧ w'.ownsRow w.heap.size 54 4 (.slice B k d) k ((nbL ns ls id).flatMap lkC) ∧ Below w.heap.size w w' := by
  obtain ⟨iL, hiL, hzL0, hzL1, hzL2⟩ := info_partsG infoLK
  obtain ⟨E, hE⟩ : ∃ E, E = nbE ns ls id := ⟨_, rfl⟩
  obtain ⟨LS, hLS⟩ : ∃ E, E = nbL ns ls id := ⟨_, rfl⟩
  rw [← hE, ← hLS]
  have HE := Lib.hid hE
  have HLS := Lib.hid (show LS = if E = 0 then ns.filterMap (nbF ns ls id) else [] by rw [hLS, hE]; rfl)
  have HN := Lib.hid hg
  have HL := Lib.hid hl
  have HSO := Lib.hid hs
  have CK := Lib.hid (fun w' (h : Below w.heap.size w w') => check_any A A2 n c m c2 ns ls w' ((hg.below h).more h.size) ((hl.below h).more h.size) hw hn hm)
  have hnl : ns.length = n := hg.1
  have hml : ls.length = m := hl.1
  clear hE hLS hg hl hw hs
  have hX0 := Go.heap_alloc_new w (.cells #[.slice A n c, .slice A2 m c2] 25)
  have hB0 := (Below.refl w.heap.size w).alloc (Nat.le_refl _) (.cells #[.slice A n c, .slice A2 m c2] 25)
  go_enter Try.func23, Try.ntmps23
  go_upto_region 1 with fail
  generalize w.alloc (.cells #[.slice A n c, .slice A2 m c2] 25) = w1 at *
  have HG0 := Lib.hid (show GB w1 w.heap.size (.slice A n c) (.slice A2 m c2) from hX0)
  have HB0 := Lib.hid hB0
  clear hX0 hB0
  have GAT := Lib.hid (fun w' (h : Below w.heap.size w w') => (⟨(HN.out.below h).more h.size, (HL.out.below h).more h.size⟩ : GN w' w'.heap.size A n ns ∧ GL w' w'.heap.size A2 m ls))
  have e0 := HG0.out.c0.1
  have e1 := HG0.out.c1.1
  go_wp2_with (fail)
  refine (CK.out _ HB0.out).mono ?_
  rintro e w2 ⟨rfl, hb⟩
  have hs0 : w.heap.size ≤ w1.heap.size := HB0.out.size
  have HB2 := Lib.hid (HB0.out.trans (hb.mono hs0))
  have HG2 := Lib.hid (HG0.out.below hb HG0.out.lt)
  clear hb e0 e1
  have e0 := HG2.out.c0.1
  have e1 := HG2.out.c1.1
  by_cases hc0 : chkG ns ls = 0
  rotate_left
  · have hE2 : E = chkG ns ls := HE.out.trans (if_neg hc0)
    have hE0 : ¬ E = 0 := by rw [hE2]; exact hc0
    rw [← hE2]
    have eqv : [] = LS := Eq.symm (HLS.out.trans (if_neg hE0))
    subst eqv
    clear hE2 hc0
    go_wp2_with (fail)
    go_ret2
    exact ⟨none, 0, 0, rfl, World.ownsRow_nil _ _ _ _, HB2.out⟩
  have HGD := Lib.hid (good_of hc0)
  have HE2 := Lib.hid (show E = if hasN ns id = false then 4 else 0 from HE.out.trans (if_pos hc0))
  rw [hc0]
  clear hc0
  have hs2 : w.heap.size ≤ w2.heap.size := HB2.out.size
  have NDD := Lib.hid (fun w' (h : Below w.heap.size w w') => node_any A A2 n c m c2 ns id w' (GAT.out w' h).1 HGD.out.Rise (by omega))
  cases hh : hasN ns id
  · have eqv : 4 = E := Eq.symm (HE2.out.trans (by rw [hh]; rfl))
    subst eqv
    have eqv : [] = LS := Eq.symm (HLS.out.trans (if_neg (by decide)))
    subst eqv
    rw [hh] at NDD
    go_wp2_with (fail)
    refine (NDD.out _ HB2.out).mono ?_
    rintro e w3 ⟨rfl, hb⟩
    go_wp2_with (fail)
    go_ret2
    exact ⟨none, 0, 0, rfl, World.ownsRow_nil _ _ _ _, HB2.out.trans (hb.mono hs2)⟩
  have eqv : 0 = E := Eq.symm (HE2.out.trans (by rw [hh]; rfl))
  subst eqv
  have eqv : ns.filterMap (nbF ns ls id) = LS := Eq.symm (HLS.out.trans (if_pos rfl))
  subst eqv
  rw [hh] at NDD
  go_wp2_with (fail)
  refine (NDD.out _ HB2.out).mono ?_
  rintro e w3 ⟨rfl, hb⟩
  have HB3 := Lib.hid (HB2.out.trans (hb.mono hs2))
  have HG3 := Lib.hid (HG2.out.below hb HG2.out.lt)
  clear hb e0 e1
  have hg3l := HG3.out.lt
  have hm4096 : m ≤ 4096 := by rw [← hml]; exact HGD.out.l
  have e0 := HG3.out.c0.1
  have e1 := HG3.out.c1.1
  go_upto_region 9 with fail
  clear e0 e1
  go_loopw [9, 28] (fun pv iv wr => ∃ (i k : Nat), i ≤ m ∧ iv = .int .i64 i ∧ Hid (k = ((ls.take i).filter (nbP ns id)).length) ∧ Hid (wr.ownsRow (w.heap.size + 1) 54 4 pv k (((ls.take i).filter (nbP ns id)).flatMap lkC)) ∧ Hid (Below (w.heap.size + 1) w3 wr)) (fun _ iv _ => m - (intOf iv).toNat)
  case atStart => exact ⟨0, 0, Nat.zero_le _, rfl, Lib.hid (by simp), Lib.hid (by simpa using World.ownsRow_nil _ _ _ _), Lib.hid (Below.refl _ _)⟩
  case round =>
    obtain ⟨i, k, hi, rfl, HK, HOW, HB⟩ := hrel
    obtain ⟨A1, d1, rfl⟩ := own_form HOW.out
    obtain ⟨wa, rfl⟩ : ∃ wa : World, wa = wr := ⟨_, rfl⟩
    have HWA := Lib.hid (HB3.out.trans (HB.out.mono (Nat.le_succ _)))
    have hwa : w.heap.size + 1 ≤ wa.heap.size := Nat.le_trans hg3l HB.out.size
    by_cases hin : i < m
    · obtain ⟨b2, off2, rfl, hbl2, hc2⟩ := HL.out.at (by omega)
      obtain ⟨q0, q1, q2, q3⟩ := hc2 i hin
      have f0 := (HWA.out.cell (p := ⟨b2, off2 + i * 4, none⟩) hbl2).trans q0
      have f1 := (HWA.out.cell (p := ⟨b2, off2 + (i * 4 + 1), none⟩) hbl2).trans q1
      have f2 := (HWA.out.cell (p := ⟨b2, off2 + (i * 4 + 2), none⟩) hbl2).trans q2
      have f3 := (HWA.out.cell (p := ⟨b2, off2 + (i * 4 + 3), none⟩) hbl2).trans q3
      rw [← Nat.add_assoc] at f1 f2 f3
      have hends := HGD.out.ends (lkA ls i) (by rw [lkA_get (by omega)]; exact List.getElem_mem _)
      have HTK := Lib.hid (fil_lk (ls := ls) (i := i) (nbP ns id) (by omega))
      have hkl : k ≤ 4096 := by have := fil_len (nbP ns id) ls i; have := HK.out; omega
      obtain ⟨y, hy⟩ : ∃ y, y = lkA ls i := ⟨_, rfl⟩
      rw [← hy] at f0 f1 f2 f3 hends HTK
      obtain ⟨ya, yb, yw, yu⟩ := y
      obtain ⟨o, ho⟩ : ∃ o, o = Obj.cells #[.int .i64 ya, .int .i64 yb, .float .f64 yw, .bool yu] 54 := ⟨_, rfl⟩
      have HL15 := Lib.hid (Go.heap_alloc_new wa o)
      have HOWo := Lib.hid (World.ownsRow.alloc HOW.out o)
      have HBo := Lib.hid (HB.out.alloc hwa o)
      have hsza := ((Below.refl wa.heap.size wa).alloc (Nat.le_refl _) o).size
      have HWo := Lib.hid (HWA.out.alloc (by omega) o)
      rw [ho] at HL15 HOWo HBo hsza HWo
      clear ho hc2 q0 q1 q2 q3 hy
      go_upto_region 11 with fail
      generalize wa.alloc (.cells #[.int .i64 ya, .int .i64 yb, .float .f64 yw, .bool yu] 54) = wl at *
      generalize wa.heap.size = L15 at *
      clear f0 f1 f2 f3
      have g0 := ((Go.cell_of_row wl L15 0 _ _ _ HL15.out).trans rfl : wl.cell? ⟨L15, 0, none⟩ = some (.int .i64 ya))
      have g1 := ((Go.cell_of_row wl L15 1 _ _ _ HL15.out).trans rfl : wl.cell? ⟨L15, 1, none⟩ = some (.int .i64 yb))
      have g2 := ((Go.cell_of_row wl L15 2 _ _ _ HL15.out).trans rfl : wl.cell? ⟨L15, 2, none⟩ = some (.float .f64 yw))
      have g3 := ((Go.cell_of_row wl L15 3 _ _ _ HL15.out).trans rfl : wl.cell? ⟨L15, 3, none⟩ = some (.bool yu))
      have HC0 := Lib.hid (HG3.out.below HBo.out (Nat.lt_succ_self _))
      have e00 := HC0.out.c0.1
      have e01 := HC0.out.c1.1
      have RLV := Lib.hid (fun w' (h : Below w.heap.size w w') => glive_any A (some ⟨b2, off2, none⟩) n c m c2 ns ⟨ya, yb, yw, yu⟩ w' (GAT.out w' h).1 HGD.out.Rise (by omega) hends.1 hends.2.1)
      obtain ⟨lv, hlv⟩ : ∃ lv, lv = liveL ns ⟨ya, yb, yw, yu⟩ := ⟨_, rfl⟩
      have HLV := Lib.hid hlv
      rw [← hlv] at RLV
      clear hlv hends
      have hbase : w.heap.size + 1 ≤ wl.heap.size := Nat.le_trans hwa hsza
      by_cases c1 : ya = id
      · have c1' : (ya == id) = true := by rw [beq_iff_eq]; exact c1
        have HPP := Lib.hid (show nbP ns id ⟨ya, yb, yw, yu⟩ = lv by unfold nbP; rw [← HLV.out]; simp [c1])
        clear c1
        go_wp2_with (fail)
        refine (RLV.out _ HWo.out).mono ?_
        rintro e w5 ⟨rfl, hb⟩
        have HOW5 := Lib.hid (own_below HOWo.out hb)
        have HB5 := Lib.hid (HBo.out.trans (hb.mono hbase))
        have HBS5 := Lib.hid (Nat.le_trans hbase hb.size)
        have h0 := keep_cellG g0 hb
        have h1 := keep_cellG g1 hb
        have h2 := keep_cellG g2 hb
        have h3 := keep_cellG g3 hb
        clear hb g0 g1 g2 g3 e00 e01
        cases lv
        · have HTF := Lib.hid (show (ls.take (i + 1)).filter (nbP ns id) = (ls.take i).filter (nbP ns id) by rw [HTK.out, HPP.out]; simp)
          go_wp2_with (fail)
          go_roundw
          case rel => exact ⟨i + 1, k, by omega, by go_num, Lib.hid (by rw [HTF.out]; exact HK.out), Lib.hid (by rw [HTF.out]; exact HOW5.out), HB5⟩
          case measure => simp [intOf]; omega
        · have HTF := Lib.hid (show (ls.take (i + 1)).filter (nbP ns id) = (ls.take i).filter (nbP ns id) ++ [⟨ya, yb, yw, yu⟩] by rw [HTK.out, HPP.out]; simp)
          go_wp2_with (at_builtin; refine wpList_append_one rfl (.tmp 47) (.tmp 49) 23 rfl (w.heap.size + 1) 54 iL (.agg #[.int .i64 0, .int .i64 0, .float .f64 0, .bool false]) 4 32 Try.underlying23 hiL hzL0 hzL1 hzL2 rfl (by decide) (by decide) (.slice A1 k d1) k (((ls.take i).filter (nbP ns id)).flatMap lkC) rfl HOW5.out (lkC ⟨ya, yb, yw, yu⟩) rfl (oneL _) 54 1 (by simp [Act.eval]) (by omega) HBS5.out ?_; intro v9 w9 hown9 hbel9; obtain ⟨A9, d9, rfl⟩ := own_form hown9; have HO9 := Lib.hid hown9; have HB9 := Lib.hid (hbel9 (w.heap.size + 1) _ HB5.out (Nat.le_refl _)); clear hown9 hbel9)
          go_roundw
          case rel => exact ⟨i + 1, k + 1, by omega, by go_num, Lib.hid (by rw [HTF.out, List.length_append, ← HK.out]; rfl), Lib.hid (by rw [HTF.out, List.flatMap_append]; simpa using HO9.out), HB9⟩
          case measure => simp [intOf]; omega
      · have c1' : (ya == id) = false := by rw [beq_eq_false_iff_ne]; exact c1
        by_cases c2 : yb = id
        · have c2' : (yb == id) = true := by rw [beq_iff_eq]; exact c2
          have HPP := Lib.hid (show nbP ns id ⟨ya, yb, yw, yu⟩ = lv by unfold nbP; rw [← HLV.out]; simp [c2])
          clear c1 c2
          go_wp2_with (fail)
          refine (RLV.out _ HWo.out).mono ?_
          rintro e w5 ⟨rfl, hb⟩
          have HOW5 := Lib.hid (own_below HOWo.out hb)
          have HB5 := Lib.hid (HBo.out.trans (hb.mono hbase))
          have HBS5 := Lib.hid (Nat.le_trans hbase hb.size)
          have h0 := keep_cellG g0 hb
          have h1 := keep_cellG g1 hb
          have h2 := keep_cellG g2 hb
          have h3 := keep_cellG g3 hb
          clear hb g0 g1 g2 g3 e00 e01
          cases lv
          · have HTF := Lib.hid (show (ls.take (i + 1)).filter (nbP ns id) = (ls.take i).filter (nbP ns id) by rw [HTK.out, HPP.out]; simp)
            go_wp2_with (fail)
            go_roundw
            case rel => exact ⟨i + 1, k, by omega, by go_num, Lib.hid (by rw [HTF.out]; exact HK.out), Lib.hid (by rw [HTF.out]; exact HOW5.out), HB5⟩
            case measure => simp [intOf]; omega
          · have HTF := Lib.hid (show (ls.take (i + 1)).filter (nbP ns id) = (ls.take i).filter (nbP ns id) ++ [⟨ya, yb, yw, yu⟩] by rw [HTK.out, HPP.out]; simp)
            go_wp2_with (at_builtin; refine wpList_append_one rfl (.tmp 47) (.tmp 49) 23 rfl (w.heap.size + 1) 54 iL (.agg #[.int .i64 0, .int .i64 0, .float .f64 0, .bool false]) 4 32 Try.underlying23 hiL hzL0 hzL1 hzL2 rfl (by decide) (by decide) (.slice A1 k d1) k (((ls.take i).filter (nbP ns id)).flatMap lkC) rfl HOW5.out (lkC ⟨ya, yb, yw, yu⟩) rfl (oneL _) 54 1 (by simp [Act.eval]) (by omega) HBS5.out ?_; intro v9 w9 hown9 hbel9; obtain ⟨A9, d9, rfl⟩ := own_form hown9; have HO9 := Lib.hid hown9; have HB9 := Lib.hid (hbel9 (w.heap.size + 1) _ HB5.out (Nat.le_refl _)); clear hown9 hbel9)
            go_roundw
            case rel => exact ⟨i + 1, k + 1, by omega, by go_num, Lib.hid (by rw [HTF.out, List.length_append, ← HK.out]; rfl), Lib.hid (by rw [HTF.out, List.flatMap_append]; simpa using HO9.out), HB9⟩
            case measure => simp [intOf]; omega
        · have c2' : (yb == id) = false := by rw [beq_eq_false_iff_ne]; exact c2
          have HTF := Lib.hid (show (ls.take (i + 1)).filter (nbP ns id) = (ls.take i).filter (nbP ns id) by rw [HTK.out, show nbP ns id ⟨ya, yb, yw, yu⟩ = false by unfold nbP; simp [c1, c2]]; simp)
          clear c1 c2
          go_wp2_with (fail)
          go_roundw
          case rel => exact ⟨i + 1, k, by omega, by go_num, Lib.hid (by rw [HTF.out]; exact HK.out), Lib.hid (by rw [HTF.out]; exact HOWo.out), HBo⟩
          case measure => simp [intOf]; omega
    · obtain rfl : i = m := by omega
      have HOF := Lib.hid (show wa.ownsRow (w.heap.size + 1) 54 4 (.slice A1 k d1) k ((ls.filter (nbP ns id)).flatMap lkC) by have q := HOW.out; rw [List.take_of_length_le (by omega)] at q; exact q)
      have hkl : k ≤ 4096 := by have := fil_len (nbP ns id) ls i; have := HK.out; omega
      go_wp2_with (fail)
      refine (HSO.out HGD.out A1 k d1 (w.heap.size + 1) _ HOF.out hkl).mono ?_
      rintro e w5 ⟨rfl, ho, hb⟩
      go_wp2_with (fail)
      go_ret2
      exact ⟨A1, k, d1, rfl, own_mono ho (Nat.le_succ _), HWA.out.trans (hb.mono (Nat.le_succ _))⟩

end Go.Proofs.Ytgmljlgoaifneaa
