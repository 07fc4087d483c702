/- The walk of the reference's Live. Conditions: slices of less than 2^43 elements. -/
import Derived.Test.YtgmljlgoaifneaaGlw
import Derived.Deep.RegionLaw
import Derived.Deep.AppendLies
import Derived.Laws.OwnMore
import Derived.Laws.MakeOwn
namespace Go.Proofs.Ytgmljlgoaifneaa
open Go.RowKit Flt Go.Mem Go.Lib
set_option linter.unusedVariables false

attribute [local go_sem] run_store_float
set_option maxHeartbeats 6400000
set_option maxRecDepth 100000
theorem rliveG_any (A A2 : Option Addr) (n c m c2 : Nat) (ns : List Nd) (ls : List Lk) (w : World) (hg : GN w w.heap.size A n ns) (hl : GL w w.heap.size A2 m ls) (hw : ∀ i, i < m → (lkA ls i).w < 18446744073709551616) (hn : n ≤ 1152921504606846976) (hm : m ≤ 1152921504606846976) :
    Calls Try.prog 20 #[.agg #[.slice A n c, .slice A2 m c2]] w fun e w' => ∃ B d B2 d2, e = .returned (.tuple #[.agg #[.slice B (liveN ns ls).length d, .slice B2 (liveK ns ls).length d2], .int .i64 (chkG ns ls)]) ∧
      w'.ownsRow w.heap.size 52 3 (.slice B (liveN ns ls).length d) (liveN ns ls).length ((liveN ns ls).flatMap ndC) ∧ w'.ownsRow w.heap.size 54 4 (.slice B2 (liveK ns ls).length d2) (liveK ns ls).length ((liveK ns ls).flatMap lkC) ∧ Below w.heap.size w w' := by
  obtain ⟨iN, hiN, hzN0, hzN1, hzN2⟩ := info_partsG infoND
  obtain ⟨iL, hiL, hzL0, hzL1, hzL2⟩ := info_partsG infoLK
  have HN := Lib.hid hg
  have HL := Lib.hid hl
  have CK := Lib.hid (fun w' (h : Below w.heap.size w w') => rcheck_any A A2 n c m c2 ns ls w' ((hg.below h).more h.size) ((hl.below h).more h.size) hw hn hm)
  clear hg hl hw
  have hX0 : ((w.alloc (.cells #[.slice A n c, .slice A2 m c2] 25)).alloc (.cells #[.slice none 0 0, .slice none 0 0] 25)).heap[w.heap.size]? = some (.cells #[.slice A n c, .slice A2 m c2] 25 (0, 0)) := (Go.heap_alloc_old _ _ (by simp)).trans (Go.heap_alloc_new w _)
  have hX1 : ((w.alloc (.cells #[.slice A n c, .slice A2 m c2] 25)).alloc (.cells #[.slice none 0 0, .slice none 0 0] 25)).heap[w.heap.size + 1]? = some (.cells #[.slice none 0 0, .slice none 0 0] 25 (0, 0)) := by
    have := Go.heap_alloc_new (w.alloc (.cells #[.slice A n c, .slice A2 m c2] 25)) (.cells #[.slice none 0 0, .slice none 0 0] 25)
    rw [show (w.alloc (.cells #[.slice A n c, .slice A2 m c2] 25)).heap.size = w.heap.size + 1 by simp] at this
    exact this
  have hB0 := ((Below.refl w.heap.size w).alloc (Nat.le_refl _) (.cells #[.slice A n c, .slice A2 m c2] 25)).alloc (by simp) (.cells #[.slice none 0 0, .slice none 0 0] 25)
  go_enter Try.func20, Try.ntmps20
  go_wp2_with (fail)
  generalize (w.alloc (.cells #[.slice A n c, .slice A2 m c2] 25)).alloc (.cells #[.slice none 0 0, .slice none 0 0] 25) = w1 at *
  generalize hg1 : w.heap.size + 1 = g1 at *
  obtain ⟨g0, hg0⟩ : ∃ g0, g0 = w.heap.size := ⟨_, rfl⟩
  rw [← hg0] at hX0 hB0 hg1 ⊢
  have HGE := Lib.hid hg0
  have HG1 := Lib.hid (show GB w1 g1 (.slice none 0 0) (.slice none 0 0) from hX1)
  have HG0 := Lib.hid (show GB w1 g0 (.slice A n c) (.slice A2 m c2) from hX0)
  have HGG := Lib.hid (show g1 = g0 + 1 by omega)
  have HB0 := Lib.hid hB0
  clear hX0 hX1 hB0 hg1 hg0
  refine (CK.out _ (by have := HGE.out; subst this; exact HB0.out)).mono ?_
  rintro e w2 ⟨rfl, hb2⟩
  have HG12 := Lib.hid (HG1.out.below hb2 HG1.out.lt)
  have HG02 := Lib.hid (HG0.out.below hb2 HG0.out.lt)
  have HB2 := Lib.hid (HB0.out.trans (hb2.mono (by have := HG0.out.lt; omega)))
  clear hb2
  by_cases h0 : chkG ns ls = 0
  · have HF := Lib.hid (fine_of h0)
    have HLN := Lib.hid (show liveN ns ls = ns.filter (·.up) from if_pos h0)
    have HLK := Lib.hid (show liveK ns ls = ls.filter (liveL ns) from if_pos h0)
    rw [h0]
    have HH0 := Lib.hid h0
    clear h0
    have hn256 : n ≤ 256 := by have := HF.out.n; have := HN.out.1; omega
    have hm4096 : m ≤ 4096 := by have := HF.out.l; have := HL.out.1; omega
    obtain ⟨x0, _⟩ := HG02.out.c0
    obtain ⟨x1, _⟩ := HG02.out.c1
    have x0a := fun o => alloc_keep x0 o
    have hX5 := Go.heap_alloc_new w2 (.cells #[.slice none 0 0, .slice none 0 0] 25)
    have HX0 := Lib.hid (HG02.out.alloc (.cells #[.slice none 0 0, .slice none 0 0] 25))
    have HX1 := Lib.hid (HG12.out.alloc (.cells #[.slice none 0 0, .slice none 0 0] 25))
    have HXB := Lib.hid (HB2.out.alloc (by have := HG02.out.lt; omega) (.cells #[.slice none 0 0, .slice none 0 0] 25))
    have HZ3 := Lib.hid (show (w2.alloc (.cells #[.slice none 0 0, .slice none 0 0] 25)).heap.size = w2.heap.size + 1 by simp)
    have HLT := Lib.hid (show g1 < w2.heap.size from HG12.out.lt)
    go_wp2_with (fail)
    clear x0 x1 x0a
    generalize w2.alloc (.cells #[.slice none 0 0, .slice none 0 0] 25) = w3 at *
    generalize w2.heap.size = G at *
    have HXG := Lib.hid (show GB w3 G (.slice none 0 0) (.slice none 0 0) from hX5)
    obtain ⟨base, hbase⟩ : ∃ b, b = G + 1 := ⟨_, rfl⟩
    have hGb : G < base := by omega
    have hB3 : base ≤ w3.heap.size := by have := HZ3.out; omega
    have HBE := Lib.hid hbase
    clear hX5 hbase HG12 HG02 HB2 HG1 HG0 HB0 HZ3 CK
    go_loopw [6] (fun iv wr => ∃ (i k : Nat) (v : Value), i ≤ n ∧ iv = .int .i64 i ∧ Hid (k = ((ns.take i).filter (·.up)).length) ∧ Hid (wr.ownsRow base 52 3 v k (((ns.take i).filter (·.up)).flatMap ndC)) ∧ Hid (GB wr g0 (.slice A n c) (.slice A2 m c2)) ∧ Hid (GB wr g1 (.slice none 0 0) (.slice none 0 0)) ∧ Hid (GB wr G v (.slice none 0 0)) ∧ Hid (Below g0 w wr) ∧ Hid (base ≤ wr.heap.size)) (fun iv _ => n - (intOf iv).toNat)
    case atStart => exact ⟨0, 0, _, Nat.zero_le _, rfl, Lib.hid rfl, Lib.hid (World.ownsRow_nil _ _ _ _), HX0, HX1, HXG, HXB, Lib.hid hB3⟩
    case round =>
      obtain ⟨i, k, v, hi, rfl, HK, HOW, HC0, HC1, HC2, HB, HS⟩ := hrel
      obtain ⟨wa, rfl⟩ : ∃ wa : World, wa = wr := ⟨_, rfl⟩
      obtain ⟨e00, _⟩ := HC0.out.c0
      obtain ⟨e01, _⟩ := HC0.out.c1
      obtain ⟨e20, f20⟩ := HC2.out.c0
      by_cases hin : i < n
      · obtain ⟨b, off, rfl, hbl, hc⟩ := HN.out.at (by omega)
        obtain ⟨c0, c1, c2'⟩ := hc i hin
        have hblg : b < g0 := by have := HGE.out; omega
        have d0 := (HB.out.cell (p := ⟨b, off + i * 3, none⟩) hblg).trans c0
        have d1 := (HB.out.cell (p := ⟨b, off + (i * 3 + 1), none⟩) hblg).trans c1
        have d2 := (HB.out.cell (p := ⟨b, off + (i * 3 + 2), none⟩) hblg).trans c2'
        rw [← Nat.add_assoc] at d1 d2
        have HTK := Lib.hid (fil_nd (ns := ns) (i := i) (·.up) (by rw [HN.out.1]; exact hin))
        have hkb : (k + 1) * 16 ≤ 140737488355328 := by have := fil_len (·.up) ns i; have := HK.out; omega
        obtain ⟨x, hx⟩ : ∃ x, x = ndA ns i := ⟨_, rfl⟩
        rw [← hx] at d0 d1 d2 HTK
        obtain ⟨xi, xu, xm⟩ := x
        clear hc c0 c1 c2' hx
        cases xu
        · have HTF := Lib.hid (show (ns.take (i + 1)).filter (·.up) = (ns.take i).filter (·.up) from HTK.out.trans (by simp))
          go_wp2_with (fail)
          go_roundw
          case rel => exact ⟨i + 1, k, v, by omega, by go_num, Lib.hid (by rw [HTF.out]; exact HK.out), Lib.hid (by rw [HTF.out]; exact HOW.out), HC0, HC1, HC2, HB, HS⟩
          case measure => simp [intOf]; omega
        · have HTF := Lib.hid (show (ns.take (i + 1)).filter (·.up) = (ns.take i).filter (·.up) ++ [⟨xi, true, xm⟩] from HTK.out.trans (by simp))
          have hbs : base ≤ wa.heap.size := HS.out
          have hg0b : g0 ≤ base := by have := HBE.out; have := HLT.out; have := HGG.out; omega
          have hownd : wa.drew.ownsRow base 52 3 v k (((ns.take i).filter (·.up)).flatMap ndC) := HOW.out
          have hOL := Lib.hid (fun q hq => (HOW.out.lt q hq).1)
          have HC0d := Lib.hid (fun o => GB.alloc (show GB wa.drew g0 _ _ from HC0.out) o)
          have HC1d := Lib.hid (fun o => GB.alloc (show GB wa.drew g1 _ _ from HC1.out) o)
          have HC2d := Lib.hid (fun o => GB.alloc (show GB wa.drew G _ _ from HC2.out) o)
          have HBd := Lib.hid (fun o => (show Below g0 w wa.drew from below_drewN HB.out 1).alloc (by show g0 ≤ wa.heap.size; omega) o)
          have e2a := fun o => alloc_keep (show wa.drew.cell? _ = some _ from e20) o
          have e2b := fun o => alloc_keep e20 o
          have e2c := fun o => (show (wa.alloc o).drew.cell? _ = some _ from alloc_keep e20 o)
          go_wp2_with (fail)
          go_region_law (refine step_append_lies _ rfl (.tmp 29) (.tmp 35) 22 rfl base 52 iN (.agg #[.int .i64 0, .bool false, .bool false]) 3 16 Try.underlying22 hiN hzN0 hzN1 hzN2 rfl (by decide) v k (((ns.take i).filter (fun x : Nd => x.up)).flatMap ndC) (by simp [Act.eval]) (World.ownsRow.alloc hownd _) ⟨wa.heap.size, 0, none⟩ 1 1 (ndC ⟨xi, true, xm⟩) (by simp [Act.eval]) rfl (new_cells wa.drew (ndC ⟨xi, true, xm⟩) _) (oneN _) (by decide) (by unfold maxLen; omega) hkb (by simp; omega) (wa.heap.size + 1) (by simp) ?_; intro g cap w1 hown1 hgrow _ _; have hz := (HC2d.out _).grown hgrow hOL.out (by omega); have hz0 := hz.c0.1; have hz1 := hz.c0.2; have HO := Lib.hid hown1; have HW := Lib.hid ((Below.refl base _).grown hgrow (by simp; omega) hOL.out); have HW0 := Lib.hid ((HBd.out _).grown hgrow (by simp; omega) (fun q hq => by have := hOL.out q hq; have := HBE.out; have := HLT.out; have := HGG.out; omega)); have HZ := Lib.hid hz; have HZ0 := Lib.hid ((HC0d.out _).grown hgrow hOL.out (by have := HBE.out; have := HLT.out; have := HGG.out; omega)); have HZ1 := Lib.hid ((HC1d.out _).grown hgrow hOL.out (by have := HBE.out; have := HLT.out; omega)); clear hown1 hgrow hz)
          all_goals
            go_wp2_with (fail)
            clear hz0 hz1 hownd
            go_roundw
            case rel =>
              have e1 := HBE.out
              have e2 := HLT.out
              have e3 := HGG.out
              exact ⟨i + 1, k + 1, _, by omega, by go_num, Lib.hid (by rw [HTF.out, List.length_append, ← HK.out]; rfl), Lib.hid (by rw [HTF.out, List.flatMap_append]; exact own_set (by simpa using HO.out) hGb), Lib.hid (HZ0.out.set (by omega) _ _), Lib.hid (HZ1.out.set (by omega) _ _), Lib.hid (HZ.out.s0 _), Lib.hid (HW0.out.setCell (p := ⟨G, 0, none⟩) (by show _ ≤ G; omega) _), Lib.hid (by have h9 := HW.out.size; simp [World.setCell] at h9 ⊢; omega)⟩
            case measure => simp [intOf]; omega
      · obtain rfl : i = n := by omega
        have hlN := HN.out.1
        have HOWA := Lib.hid (show wa.ownsRow base 52 3 v k ((ns.filter (·.up)).flatMap ndC) by have := HOW.out; rw [List.take_of_length_le (by omega)] at this; exact this)
        have HKA := Lib.hid (show k = (ns.filter (·.up)).length by have := HK.out; rw [List.take_of_length_le (by omega)] at this; exact this)
        obtain ⟨B, hB⟩ : ∃ B, B = wa.heap.size := ⟨_, rfl⟩
        have HOB := Lib.hid (fun q hq => (show q < B by rw [hB]; exact (HOWA.out.lt q hq).2))
        have hGb2 : G < B := by have := HS.out; omega
        have HBB := Lib.hid hB
        have HBla := Lib.hid (show base ≤ B by rw [hB]; exact HS.out)
        clear hB hlN
        have HA0 := HC0
        have HA1 := HC1
        have HA2 := HC2
        have HAB := HB
        clear HK HOW HS HC0 HC1 HC2 HB e20 f20
        go_wp2_with (fail)
        clear e00 e01
        go_loopw [7] (fun jv wr => ∃ (j k2 : Nat) (v2 : Value), j ≤ m ∧ jv = .int .i64 j ∧ Hid (k2 = ((ls.take j).filter (liveL ns)).length) ∧ Hid (wr.ownsRow B 54 4 v2 k2 (((ls.take j).filter (liveL ns)).flatMap lkC)) ∧ Hid (wr.ownsRow base 52 3 v k ((ns.filter (·.up)).flatMap ndC)) ∧ Hid (GB wr g0 (.slice A i c) (.slice A2 m c2)) ∧ Hid (GB wr g1 (.slice none 0 0) (.slice none 0 0)) ∧ Hid (GB wr G v v2) ∧ Hid (Below g0 w wr) ∧ Hid (B ≤ wr.heap.size)) (fun jv _ => m - (intOf jv).toNat)
        case atStart => exact ⟨0, 0, _, Nat.zero_le _, rfl, Lib.hid rfl, Lib.hid (World.ownsRow_nil _ _ _ _), HOWA, HA0, HA1, HA2, HAB, Lib.hid (Nat.le_of_eq HBB.out)⟩
        case round =>
          obtain ⟨j, k2, v2, hj, rfl, HK, HOW, HON, HC0, HC1, HC2, HB, HS⟩ := hrel
          obtain ⟨wb, rfl⟩ : ∃ wb : World, wb = wr := ⟨_, rfl⟩
          obtain ⟨e00, _⟩ := HC0.out.c0
          obtain ⟨e01, _⟩ := HC0.out.c1
          obtain ⟨e20, _⟩ := HC2.out.c0
          obtain ⟨e21, f21⟩ := HC2.out.c1
          by_cases hjm : j < m
          · obtain ⟨b, off, rfl, hbl, hc⟩ := HL.out.at (by omega)
            obtain ⟨c0, c1, c2', c3⟩ := hc j hjm
            have hblg : b < g0 := by have := HGE.out; omega
            have d0 := (HB.out.cell (p := ⟨b, off + j * 4, none⟩) hblg).trans c0
            have d1 := (HB.out.cell (p := ⟨b, off + (j * 4 + 1), none⟩) hblg).trans c1
            have d2 := (HB.out.cell (p := ⟨b, off + (j * 4 + 2), none⟩) hblg).trans c2'
            have d3 := (HB.out.cell (p := ⟨b, off + (j * 4 + 3), none⟩) hblg).trans c3
            rw [← Nat.add_assoc] at d1 d2 d3
            have HTK := Lib.hid (fil_lk (ls := ls) (i := j) (liveL ns) (by rw [HL.out.1]; exact hjm))
            have HHA := Lib.hid (HF.out.has (k := j) (by rw [HL.out.1]; exact hjm))
            have hkb : (k2 + 1) * 32 ≤ 140737488355328 := by have := fil_len (liveL ns) ls j; have := HK.out; omega
            have hg0B : g0 ≤ B := by have := HGG.out; have := HLT.out; omega
            have hg1B : g1 < B := by have := HLT.out; omega
            obtain ⟨x, hx⟩ : ∃ x, x = lkA ls j := ⟨_, rfl⟩
            rw [← hx] at d0 d1 d2 d3 HTK HHA
            have RLV := Lib.hid (fun w' (h : Below wb.heap.size wb w') => rlive_any A (some ⟨b, off, none⟩) i c m c2 ns x w' ((HN.out.below (by have := HGE.out; subst this; exact HB.out.trans (h.mono HB.out.size))).more (by have := HGE.out; have := HB.out.size; have := h.size; omega)) HF.out.rise (by omega) HHA.out.1 HHA.out.2)
            obtain ⟨xa, xb, xw, xu⟩ := x
            have hbd := (Below.refl wb.heap.size wb).drew
            clear hc c0 c1 c2' c3 hx
            go_wp2_with (fail)
            go_region_held3 (fun w' => w'.cell? ⟨g0, 0, none⟩ = some (.slice A i c) ∧ w'.cell? ⟨g0, 1, none⟩ = some (.slice (some ⟨b, off, none⟩) m c2) ∧ w'.cell? ⟨b, off + j * 4, none⟩ = some (.int .i64 xa) ∧ w'.cell? ⟨b, off + j * 4 + 1, none⟩ = some (.int .i64 xb) ∧ w'.cell? ⟨b, off + j * 4 + 2, none⟩ = some (.float .f64 xw) ∧ w'.cell? ⟨b, off + j * 4 + 3, none⟩ = some (.bool xu) ∧ Below wb.heap.size wb w')
              (first | exact held_keep6 (by assumption) hb | exact ⟨e00, e01, d0, d1, d2, d3, hbd⟩ | go_keep)
              (first | (go_at_call 41; refine (RLV.out _ (heldB6 (by assumption))).mono ?_; rintro e w5 ⟨rfl, hb⟩))
            have hb5 := heldB6 (by assumption)
            have HOW5 := Lib.hid (own_below HOW.out hb5)
            have HON5 := Lib.hid (own_below HON.out hb5)
            have H0b := Lib.hid (HC0.out.below hb5 HC0.out.lt)
            have H1b := Lib.hid (HC1.out.below hb5 HC1.out.lt)
            have H2b := Lib.hid (HC2.out.below hb5 HC2.out.lt)
            have HBb := Lib.hid (HB.out.trans (hb5.mono (Nat.le_trans hg0B HS.out)))
            have HBS := Lib.hid (Nat.le_trans HS.out hb5.size)
            have s0 := keep_cellG d0 hb5
            have s1 := keep_cellG d1 hb5
            have s2 := keep_cellG d2 hb5
            have s3 := keep_cellG d3 hb5
            obtain ⟨t00, _⟩ := H0b.out.c0
            obtain ⟨t01, _⟩ := H0b.out.c1
            obtain ⟨t20, _⟩ := H2b.out.c0
            obtain ⟨t21, u21⟩ := H2b.out.c1
            clear hb5 hb hbd e00 e01 e20 e21 f21 d0 d1 d2 d3 RLV
            cases hlv : liveL ns ⟨xa, xb, xw, xu⟩
            · have HTF := Lib.hid (show (ls.take (j + 1)).filter (liveL ns) = (ls.take j).filter (liveL ns) from HTK.out.trans (by rw [hlv]; simp))
              go_wp2_with (fail)
              go_roundw
              case rel => exact ⟨j + 1, k2, v2, by omega, by go_num, Lib.hid (by rw [HTF.out]; exact HK.out), Lib.hid (by rw [HTF.out]; exact HOW5.out), HON5, H0b, H1b, H2b, HBb, HBS⟩
              case measure => simp [intOf]; omega
            · have HTF := Lib.hid (show (ls.take (j + 1)).filter (liveL ns) = (ls.take j).filter (liveL ns) ++ [⟨xa, xb, xw, xu⟩] from HTK.out.trans (by rw [hlv]; simp))
              have hbs : B ≤ w5.heap.size := HBS.out
              have hownd : w5.drew.ownsRow B 54 4 v2 k2 (((ls.take j).filter (liveL ns)).flatMap lkC) := HOW5.out
              have HONd := Lib.hid (show w5.drew.ownsRow base 52 3 v k ((ns.filter (·.up)).flatMap ndC) from HON5.out)
              have hOL := Lib.hid (fun q hq => (HOW5.out.lt q hq).1)
              have HC0d := Lib.hid (fun o => GB.alloc (show GB w5.drew g0 _ _ from H0b.out) o)
              have HC1d := Lib.hid (fun o => GB.alloc (show GB w5.drew g1 _ _ from H1b.out) o)
              have HC2d := Lib.hid (fun o => GB.alloc (show GB w5.drew G _ _ from H2b.out) o)
              have HBd := Lib.hid (fun o => (show Below g0 w w5.drew from below_drewN HBb.out 1).alloc (by show g0 ≤ w5.heap.size; omega) o)
              have e2a := fun o => alloc_keep (show w5.drew.cell? _ = some _ from t21) o
              have e2b := fun o => alloc_keep t21 o
              have e2c := fun o => (show (w5.alloc o).drew.cell? _ = some _ from alloc_keep t21 o)
              go_wp2_with (fail)
              go_region_law (refine step_append_lies _ rfl (.tmp 53) (.tmp 59) 23 rfl B 54 iL (.agg #[.int .i64 0, .int .i64 0, .float .f64 0, .bool false]) 4 32 Try.underlying23 hiL hzL0 hzL1 hzL2 rfl (by decide) v2 k2 (((ls.take j).filter (liveL ns)).flatMap lkC) (by simp [Act.eval]) (World.ownsRow.alloc hownd _) ⟨w5.heap.size, 0, none⟩ 1 1 (lkC ⟨xa, xb, xw, xu⟩) (by simp [Act.eval]) rfl (new_cells w5.drew (lkC ⟨xa, xb, xw, xu⟩) _) (oneL _) (by decide) (by unfold maxLen; omega) hkb (by simp; omega) (w5.heap.size + 1) (by simp) ?_; intro g cap w1 hown1 hgrow _ _; have hz := (HC2d.out _).grown hgrow hOL.out (by omega); have hz0 := hz.c1.1; have hz1 := hz.c1.2; have HO := Lib.hid hown1; have HW := Lib.hid ((Below.refl B _).grown hgrow (by simp; omega) hOL.out); have HW0 := Lib.hid ((HBd.out _).grown hgrow (by simp; omega) (fun q hq => by have := hOL.out q hq; omega)); have HZ := Lib.hid hz; have HZ0 := Lib.hid ((HC0d.out _).grown hgrow hOL.out (by have := HGG.out; omega)); have HZ1 := Lib.hid ((HC1d.out _).grown hgrow hOL.out hg1B); clear hown1 hgrow hz)
              all_goals
                go_wp2_with (fail)
                clear hz0 hz1 hownd
                go_roundw
                case rel => exact ⟨j + 1, k2 + 1, _, by omega, by go_num, Lib.hid (by rw [HTF.out, List.length_append, ← HK.out]; rfl), Lib.hid (by rw [HTF.out, List.flatMap_append]; exact own_set (by simpa using HO.out) hGb2), Lib.hid (own_set (own_keep (World.ownsRow.alloc HONd.out _) HW.out HOB.out) hGb), Lib.hid (HZ0.out.set (by have := HGG.out; have := HLT.out; omega) _ _), Lib.hid (HZ1.out.set (by have := HLT.out; omega) _ _), Lib.hid (HZ.out.s1 _), Lib.hid (HW0.out.setCell (p := ⟨G, 1, none⟩) (by show _ ≤ G; have := HGG.out; have := HLT.out; omega) _), Lib.hid (by have h9 := HW.out.size; simp [World.setCell] at h9 ⊢; omega)⟩
                case measure => simp [intOf]; omega
          · obtain rfl : j = m := by omega
            have hlL := HL.out.1
            have HOWB := Lib.hid (show wb.ownsRow B 54 4 v2 k2 ((ls.filter (liveL ns)).flatMap lkC) by have := HOW.out; rw [List.take_of_length_le (by omega)] at this; exact this)
            have HKB := Lib.hid (show k2 = (ls.filter (liveL ns)).length by have := HK.out; rw [List.take_of_length_le (by omega)] at this; exact this)
            obtain ⟨A5, c5, rfl⟩ := own_form HON.out
            obtain ⟨A6, c6, rfl⟩ := own_form HOWB.out
            obtain ⟨e10, f10⟩ := HC1.out.c0
            obtain ⟨e11, f11⟩ := HC1.out.c1
            clear hlL
            go_wp2_with (fail)
            have e := HGG.out
            have e2 := HLT.out
            have e3 := HBla.out
            have e4 := HBE.out
            have e5 := HGE.out
            subst e5
            refine bodyPost_ret (ret_gr rfl _ _ _ rfl rfl ((HC1.out.s0 (.slice A5 k c5)).s1 (.slice A6 k2 c6))) rfl ?_
            rw [HLN.out, HLK.out, ← HKA.out, ← HKB.out, HH0.out]
            exact ⟨_, _, _, _, rfl, own_mono (own_set (own_set HON.out (by omega)) (by omega)) (by omega), own_mono (own_set (own_set HOWB.out (by omega)) (by omega)) (by omega), (HB.out.setCell (p := ⟨g1, 0, none⟩) (by show _ ≤ g1; omega) _).setCell (p := ⟨g1, 1, none⟩) (by show _ ≤ g1; omega) _⟩
  · have HLN := Lib.hid (show liveN ns ls = [] from if_neg h0)
    have HLK := Lib.hid (show liveK ns ls = [] from if_neg h0)
    obtain ⟨e10, f10⟩ := HG12.out.c0
    obtain ⟨e11, f11⟩ := HG12.out.c1
    generalize hrr : chkG ns ls = r at *
    have HRR := Lib.hid hrr
    clear hrr
    go_wp2_with (fail)
    have e := HGG.out
    have e5 := HGE.out
    subst e5
    refine bodyPost_ret (ret_gr rfl _ _ _ rfl rfl ((HG12.out.s0 (.slice none 0 0)).s1 (.slice none 0 0))) rfl ?_
    rw [HLN.out, HLK.out, HRR.out]
    exact ⟨_, _, _, _, rfl, World.ownsRow_nil _ _ _ _, World.ownsRow_nil _ _ _ _, (HB2.out.setCell (p := ⟨g1, 0, none⟩) (by show _ ≤ g1; omega) _).setCell (p := ⟨g1, 1, none⟩) (by show _ ≤ g1; omega) _⟩

end Go.Proofs.Ytgmljlgoaifneaa
