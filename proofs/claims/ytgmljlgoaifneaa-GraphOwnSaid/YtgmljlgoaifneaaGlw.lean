/- The walk of Live. Conditions: slices of less than 2^43 elements. -/
import Derived.Test.YtgmljlgoaifneaaGlv
import Derived.Test.YtgmljlgoaifneaaGen
namespace Go.Proofs.Ytgmljlgoaifneaa
open Go.RowKit Flt Go.Mem Go.Lib
set_option linter.unusedVariables false

attribute [local go_sem] run_store_float
set_option maxHeartbeats 6400000
set_option maxRecDepth 100000
theorem fil_nd {ns : List Nd} {i : Nat} (p : Nd → Bool) (h : i < ns.length) : (ns.take (i + 1)).filter p = (ns.take i).filter p ++ (if p (ndA ns i) then [ndA ns i] else []) := by
  rw [take_nd h, List.filter_append]; congr 1
  cases hp : p (ndA ns i) <;> simp [hp]
theorem fil_lk {ls : List Lk} {i : Nat} (p : Lk → Bool) (h : i < ls.length) : (ls.take (i + 1)).filter p = (ls.take i).filter p ++ (if p (lkA ls i) then [lkA ls i] else []) := by
  rw [take_lk h, List.filter_append]; congr 1
  cases hp : p (lkA ls i) <;> simp [hp]
theorem fil_len {α : Type} (p : α → Bool) (l : List α) (i : Nat) : ((l.take i).filter p).length ≤ i := Nat.le_trans (List.length_filter_le _ _) (by simp; omega)
theorem live_any (A A2 : Option Addr) (n c m c2 : Nat) (ns : List Nd) (ls : List Lk) (w : World) (hg : GN w w.heap.size A n ns) (hl : GL w w.heap.size A2 m ls) (hw : ∀ i, i < m → (lkA ls i).w < 18446744073709551616) (hn : n ≤ 1152921504606846976) (hm : m ≤ 1152921504606846976) :
    Calls Try.prog 19 #[.agg #[.slice A n c, .slice A2 m c2]] w fun e w' => ∃ B d B2 d2, e = .returned (.tuple #[.agg #[.slice B (liveN ns ls).length d, .slice B2 (liveK ns ls).length d2], .int .i64 (chkG ns ls)]) ∧
      w'.ownsRow w.heap.size 52 3 (.slice B (liveN ns ls).length d) (liveN ns ls).length ((liveN ns ls).flatMap ndC) ∧ w'.ownsRow w.heap.size 54 4 (.slice B2 (liveK ns ls).length d2) (liveK ns ls).length ((liveK ns ls).flatMap lkC) ∧ Below w.heap.size w w' := by
  obtain ⟨iN, hiN, hzN0, hzN1, hzN2⟩ := info_partsG infoND
  obtain ⟨iL, hiL, hzL0, hzL1, hzL2⟩ := info_partsG infoLK
  have HN := Lib.hid hg
  have HL := Lib.hid hl
  have CK := Lib.hid (fun w' (h : Below w.heap.size w w') => check_any A A2 n c m c2 ns ls w' ((hg.below h).more h.size) ((hl.below h).more h.size) hw hn hm)
  clear hg hl hw
  have hX0 : ((w.alloc (.cells #[.slice A n c, .slice A2 m c2] 25)).alloc (.cells #[.slice none 0 0, .slice none 0 0] 25)).heap[w.heap.size]? = some (.cells #[.slice A n c, .slice A2 m c2] 25 (0, 0)) := (Go.heap_alloc_old _ _ (by simp)).trans (Go.heap_alloc_new w _)
  have hX1 : ((w.alloc (.cells #[.slice A n c, .slice A2 m c2] 25)).alloc (.cells #[.slice none 0 0, .slice none 0 0] 25)).heap[w.heap.size + 1]? = some (.cells #[.slice none 0 0, .slice none 0 0] 25 (0, 0)) := by
    have := Go.heap_alloc_new (w.alloc (.cells #[.slice A n c, .slice A2 m c2] 25)) (.cells #[.slice none 0 0, .slice none 0 0] 25)
    rw [show (w.alloc (.cells #[.slice A n c, .slice A2 m c2] 25)).heap.size = w.heap.size + 1 by simp] at this
    exact this
  have hB0 := ((Below.refl w.heap.size w).alloc (Nat.le_refl _) (.cells #[.slice A n c, .slice A2 m c2] 25)).alloc (by simp) (.cells #[.slice none 0 0, .slice none 0 0] 25)
  go_enter Try.func19, Try.ntmps19
  go_wp2_with (fail)
  generalize (w.alloc (.cells #[.slice A n c, .slice A2 m c2] 25)).alloc (.cells #[.slice none 0 0, .slice none 0 0] 25) = w1 at *
  generalize hg1 : w.heap.size + 1 = g1 at *
  obtain ⟨g0, hg0⟩ : ∃ g0, g0 = w.heap.size := ⟨_, rfl⟩
  rw [← hg0] at hX0 hB0 hg1 ⊢
  have HGE := Lib.hid hg0
  have HG1 := Lib.hid (show GB w1 g1 (.slice none 0 0) (.slice none 0 0) from hX1)
  have HG0 := Lib.hid (show GB w1 g0 (.slice A n c) (.slice A2 m c2) from hX0)
  have HGG := Lib.hid (show g1 = g0 + 1 by omega)
  have HB0 := Lib.hid hB0
  clear hX0 hX1 hB0 hg1 hg0
  refine (CK.out _ (by have := HGE.out; subst this; exact HB0.out)).mono ?_
  rintro e w2 ⟨rfl, hb2⟩
  have HG12 := Lib.hid (HG1.out.below hb2 HG1.out.lt)
  have HG02 := Lib.hid (HG0.out.below hb2 HG0.out.lt)
  have HB2 := Lib.hid (HB0.out.trans (hb2.mono (by have := HG0.out.lt; omega)))
  clear hb2
  by_cases h0 : chkG ns ls = 0
  · have HF := Lib.hid (fine_of h0)
    have HLN := Lib.hid (show liveN ns ls = ns.filter (·.up) from if_pos h0)
    have HLK := Lib.hid (show liveK ns ls = ls.filter (liveL ns) from if_pos h0)
    rw [h0]
    have HH0 := Lib.hid h0
    clear h0
    have hn256 : n ≤ 256 := by have := HF.out.n; have := HN.out.1; omega
    have hm4096 : m ≤ 4096 := by have := HF.out.l; have := HL.out.1; omega
    obtain ⟨x0, _⟩ := HG02.out.c0
    obtain ⟨x1, _⟩ := HG02.out.c1
    have x0a := fun o => alloc_keep x0 o
    have hX5 := Go.heap_alloc_new w2 (.cells #[.slice none 0 0, .slice none 0 0] 25)
    have HX0 := Lib.hid (HG02.out.alloc (.cells #[.slice none 0 0, .slice none 0 0] 25))
    have HX1 := Lib.hid (HG12.out.alloc (.cells #[.slice none 0 0, .slice none 0 0] 25))
    have HXB := Lib.hid (HB2.out.alloc (by have := HG02.out.lt; omega) (.cells #[.slice none 0 0, .slice none 0 0] 25))
    have HZ3 := Lib.hid (show (w2.alloc (.cells #[.slice none 0 0, .slice none 0 0] 25)).heap.size = w2.heap.size + 1 by simp)
    have HLT := Lib.hid (show g1 < w2.heap.size from HG12.out.lt)
    go_wp2_with (fail)
    clear x0 x1 x0a
    generalize w2.alloc (.cells #[.slice none 0 0, .slice none 0 0] 25) = w3 at *
    generalize w2.heap.size = G at *
    have HXG := Lib.hid (show GB w3 G (.slice none 0 0) (.slice none 0 0) from hX5)
    obtain ⟨base, hbase⟩ : ∃ b, b = G + 1 := ⟨_, rfl⟩
    have hGb : G < base := by omega
    have hB3 : base ≤ w3.heap.size := by have := HZ3.out; omega
    have HBE := Lib.hid hbase
    clear hX5 hbase HG12 HG02 HB2 HG1 HG0 HB0 HZ3 CK
    go_loopw [19] (fun iv wr => ∃ (i k : Nat) (v : Value), i ≤ n ∧ iv = .int .i64 i ∧ Hid (k = ((ns.take i).filter (·.up)).length) ∧ Hid (wr.ownsRow base 52 3 v k (((ns.take i).filter (·.up)).flatMap ndC)) ∧ Hid (GB wr g0 (.slice A n c) (.slice A2 m c2)) ∧ Hid (GB wr g1 (.slice none 0 0) (.slice none 0 0)) ∧ Hid (GB wr G v (.slice none 0 0)) ∧ Hid (Below g0 w wr) ∧ Hid (base ≤ wr.heap.size)) (fun iv _ => n - (intOf iv).toNat)
    case atStart => exact ⟨0, 0, _, Nat.zero_le _, rfl, Lib.hid rfl, Lib.hid (World.ownsRow_nil _ _ _ _), HX0, HX1, HXG, HXB, Lib.hid hB3⟩
    case round =>
      obtain ⟨i, k, v, hi, rfl, HK, HOW, HC0, HC1, HC2, HB, HS⟩ := hrel
      obtain ⟨wa, rfl⟩ : ∃ wa : World, wa = wr := ⟨_, rfl⟩
      obtain ⟨e00, _⟩ := HC0.out.c0
      obtain ⟨e01, _⟩ := HC0.out.c1
      obtain ⟨e20, f20⟩ := HC2.out.c0
      by_cases hin : i < n
      · obtain ⟨b, off, rfl, hbl, hc⟩ := HN.out.at (by omega)
        obtain ⟨c0, c1, c2'⟩ := hc i hin
        have hblg : b < g0 := by have := HGE.out; omega
        have d0 := (HB.out.cell (p := ⟨b, off + i * 3, none⟩) hblg).trans c0
        have d1 := (HB.out.cell (p := ⟨b, off + (i * 3 + 1), none⟩) hblg).trans c1
        have d2 := (HB.out.cell (p := ⟨b, off + (i * 3 + 2), none⟩) hblg).trans c2'
        rw [← Nat.add_assoc] at d1 d2
        have HTK := Lib.hid (fil_nd (ns := ns) (i := i) (·.up) (by rw [HN.out.1]; exact hin))
        have hkb : (k + 1) * 16 ≤ 140737488355328 := by have := fil_len (·.up) ns i; have := HK.out; omega
        obtain ⟨x, hx⟩ : ∃ x, x = ndA ns i := ⟨_, rfl⟩
        rw [← hx] at d0 d1 d2 HTK
        obtain ⟨xi, xu, xm⟩ := x
        clear hc c0 c1 c2' hx
        cases xu
        · have HTF := Lib.hid (show (ns.take (i + 1)).filter (·.up) = (ns.take i).filter (·.up) from HTK.out.trans (by simp))
          obtain ⟨o, ho⟩ : ∃ o, o = Obj.cells #[.int .i64 xi, .bool false, .bool xm] 52 := ⟨_, rfl⟩
          have HO1 := Lib.hid (World.ownsRow.alloc HOW.out o)
          have H0a := Lib.hid (HC0.out.alloc o)
          have H1a := Lib.hid (HC1.out.alloc o)
          have H2a := Lib.hid (HC2.out.alloc o)
          have HBa := Lib.hid (HB.out.alloc (by have := HS.out; have := HBE.out; have := HLT.out; have := HGG.out; omega) o)
          have HSa := Lib.hid (Nat.le_trans HS.out ((Below.refl _ _).alloc (Nat.le_refl _) o).size)
          rw [ho] at HO1 H0a H1a H2a HBa HSa
          clear ho
          go_wp2_with (fail)
          go_roundw
          case rel => exact ⟨i + 1, k, v, by omega, by go_num, Lib.hid (by rw [HTF.out]; exact HK.out), Lib.hid (by rw [HTF.out]; exact HO1.out), H0a, H1a, H2a, HBa, HSa⟩
          case measure => simp [intOf]; omega
        · have HTF := Lib.hid (show (ns.take (i + 1)).filter (·.up) = (ns.take i).filter (·.up) ++ [⟨xi, true, xm⟩] from HTK.out.trans (by simp))
          obtain ⟨o, ho⟩ : ∃ o, o = Obj.cells #[.int .i64 xi, .bool true, .bool xm] 52 := ⟨_, rfl⟩
          have HOWN := Lib.hid (World.ownsRow.alloc HOW.out o)
          have H0a := Lib.hid (HC0.out.alloc o)
          have H1a := Lib.hid (HC1.out.alloc o)
          have HCGo := Lib.hid (HC2.out.alloc o)
          have HBa := Lib.hid (HB.out.alloc (by have := HS.out; have := HBE.out; have := HLT.out; have := HGG.out; omega) o)
          have HBS := Lib.hid (Nat.le_trans HS.out ((Below.refl _ _).alloc (Nat.le_refl _) o).size)
          have e2a := alloc_keep e20 o
          rw [ho] at HOWN H0a H1a HCGo HBa HBS e2a
          clear ho
          go_wp2_with (at_builtin; refine wpList_append_one rfl (.tmp 26) (.tmp 28) 22 rfl base 52 iN (.agg #[.int .i64 0, .bool false, .bool false]) 3 16 Try.underlying22 hiN hzN0 hzN1 hzN2 rfl (by decide) (by decide) v k (((ns.take i).filter (·.up)).flatMap ndC) rfl HOWN.out (ndC ⟨xi, true, xm⟩) rfl (oneN _) 52 1 (by simp [Act.eval]) hkb HBS.out ?_; intro v1 w6 hown1 hbel1; obtain ⟨A1, d1, rfl⟩ := own_form hown1; have hz := HCGo.out.below (hbel1 base _ (Below.refl base _) (Nat.le_refl _)) hGb; have hz0 := hz.c0.1; have hz1 := hz.c0.2; have HZ := Lib.hid hz; have HO := Lib.hid hown1; have HBL := Lib.hid hbel1; clear hz hown1 hbel1)
          go_roundw
          case rel =>
            have e1 := HBE.out
            have e2 := HLT.out
            have e3 := HGG.out
            exact ⟨i + 1, k + 1, _, by omega, by go_num, Lib.hid (by rw [HTF.out, List.length_append, ← HK.out]; rfl), Lib.hid (by rw [HTF.out, List.flatMap_append]; exact own_set (by simpa using HO.out) hGb), Lib.hid ((H0a.out.below (HBL.out base _ (Below.refl base _) (Nat.le_refl _)) (by omega)).set (by omega) _ _), Lib.hid ((H1a.out.below (HBL.out base _ (Below.refl base _) (Nat.le_refl _)) (by omega)).set (by omega) _ _), Lib.hid (HZ.out.s0 _), Lib.hid ((HBL.out g0 _ HBa.out (by omega)).setCell (p := ⟨G, 0, none⟩) (by show _ ≤ G; omega) _), Lib.hid (Nat.le_trans HBS.out (Nat.le_trans (HBL.out base _ (Below.refl base _) (Nat.le_refl _)).size (by simp [World.setCell])))⟩
          case measure => simp [intOf]; omega
      · obtain rfl : i = n := by omega
        have hlN := HN.out.1
        have HOWA := Lib.hid (show wa.ownsRow base 52 3 v k ((ns.filter (·.up)).flatMap ndC) by have := HOW.out; rw [List.take_of_length_le (by omega)] at this; exact this)
        have HKA := Lib.hid (show k = (ns.filter (·.up)).length by have := HK.out; rw [List.take_of_length_le (by omega)] at this; exact this)
        obtain ⟨B, hB⟩ : ∃ B, B = wa.heap.size := ⟨_, rfl⟩
        have HOB := Lib.hid (fun q hq => (show q < B by rw [hB]; exact (HOWA.out.lt q hq).2))
        have hGb2 : G < B := by have := HS.out; omega
        have HBB := Lib.hid hB
        have HBla := Lib.hid (show base ≤ B by rw [hB]; exact HS.out)
        clear hB hlN
        have HA0 := HC0
        have HA1 := HC1
        have HA2 := HC2
        have HAB := HB
        clear HK HOW HS HC0 HC1 HC2 HB e20 f20
        go_wp2_with (fail)
        clear e00 e01
        go_loopw [35] (fun jv wr => ∃ (j k2 : Nat) (v2 : Value), j ≤ m ∧ jv = .int .i64 j ∧ Hid (k2 = ((ls.take j).filter (liveL ns)).length) ∧ Hid (wr.ownsRow B 54 4 v2 k2 (((ls.take j).filter (liveL ns)).flatMap lkC)) ∧ Hid (wr.ownsRow base 52 3 v k ((ns.filter (·.up)).flatMap ndC)) ∧ Hid (GB wr g0 (.slice A i c) (.slice A2 m c2)) ∧ Hid (GB wr g1 (.slice none 0 0) (.slice none 0 0)) ∧ Hid (GB wr G v v2) ∧ Hid (Below g0 w wr) ∧ Hid (B ≤ wr.heap.size)) (fun jv _ => m - (intOf jv).toNat)
        case atStart => exact ⟨0, 0, _, Nat.zero_le _, rfl, Lib.hid rfl, Lib.hid (World.ownsRow_nil _ _ _ _), HOWA, HA0, HA1, HA2, HAB, Lib.hid (Nat.le_of_eq HBB.out)⟩
        case round =>
          obtain ⟨j, k2, v2, hj, rfl, HK, HOW, HON, HC0, HC1, HC2, HB, HS⟩ := hrel
          obtain ⟨wb, rfl⟩ : ∃ wb : World, wb = wr := ⟨_, rfl⟩
          obtain ⟨e00, _⟩ := HC0.out.c0
          obtain ⟨e01, _⟩ := HC0.out.c1
          obtain ⟨e20, _⟩ := HC2.out.c0
          obtain ⟨e21, f21⟩ := HC2.out.c1
          by_cases hjm : j < m
          · obtain ⟨b, off, rfl, hbl, hc⟩ := HL.out.at (by omega)
            obtain ⟨c0, c1, c2', c3⟩ := hc j hjm
            have hblg : b < g0 := by have := HGE.out; omega
            have d0 := (HB.out.cell (p := ⟨b, off + j * 4, none⟩) hblg).trans c0
            have d1 := (HB.out.cell (p := ⟨b, off + (j * 4 + 1), none⟩) hblg).trans c1
            have d2 := (HB.out.cell (p := ⟨b, off + (j * 4 + 2), none⟩) hblg).trans c2'
            have d3 := (HB.out.cell (p := ⟨b, off + (j * 4 + 3), none⟩) hblg).trans c3
            rw [← Nat.add_assoc] at d1 d2 d3
            have HTK := Lib.hid (fil_lk (ls := ls) (i := j) (liveL ns) (by rw [HL.out.1]; exact hjm))
            have HHA := Lib.hid (HF.out.has (k := j) (by rw [HL.out.1]; exact hjm))
            have hkb : (k2 + 1) * 32 ≤ 140737488355328 := by have := fil_len (liveL ns) ls j; have := HK.out; omega
            have hg0B : g0 ≤ B := by have := HGG.out; have := HLT.out; omega
            have hg1B : g1 < B := by have := HLT.out; omega
            obtain ⟨x, hx⟩ : ∃ x, x = lkA ls j := ⟨_, rfl⟩
            rw [← hx] at d0 d1 d2 d3 HTK HHA
            obtain ⟨o, ho⟩ : ∃ o, o = Obj.cells #[.int .i64 x.a, .int .i64 x.b, .float .f64 x.w, .bool x.up] 54 := ⟨_, rfl⟩
            have HO1 := Lib.hid (World.ownsRow.alloc HOW.out o)
            have HON1 := Lib.hid (World.ownsRow.alloc HON.out o)
            have H0a := Lib.hid (HC0.out.alloc o)
            have H1a := Lib.hid (HC1.out.alloc o)
            have H2a := Lib.hid (HC2.out.alloc o)
            have HBa := Lib.hid (HB.out.alloc (Nat.le_trans hg0B HS.out) o)
            have HSa := Lib.hid (Nat.le_trans HS.out ((Below.refl _ _).alloc (Nat.le_refl _) o).size)
            have HLB := Lib.hid (Go.heap_alloc_new wb o)
            have LV := Lib.hid (glive_any A (some ⟨b, off, none⟩) i c m c2 ns x (wb.alloc o) ((HN.out.below (by have := HGE.out; subst this; exact HBa.out)).more (by have := HGE.out; have := HBa.out.size; omega)) HF.out.rise (by omega) HHA.out.1 HHA.out.2)
            have e00a := alloc_keep e00 o
            have e01a := alloc_keep e01 o
            have q0 : (wb.alloc o).cell? ⟨wb.heap.size, 0, none⟩ = some (.int .i64 x.a) := by rw [ho]; simp [go_sem]
            have q1 : (wb.alloc o).cell? ⟨wb.heap.size, 1, none⟩ = some (.int .i64 x.b) := by rw [ho]; simp [go_sem]
            have q2 : (wb.alloc o).cell? ⟨wb.heap.size, 2, none⟩ = some (.float .f64 x.w) := by rw [ho]; simp [go_sem]
            have q3 : (wb.alloc o).cell? ⟨wb.heap.size, 3, none⟩ = some (.bool x.up) := by rw [ho]; simp [go_sem]
            rw [ho] at HO1 HON1 H0a H1a H2a HBa HSa HLB LV e00a e01a q0 q1 q2 q3
            obtain ⟨xa, xb, xw, xu⟩ := x
            clear hc c0 c1 c2' c3 hx ho
            go_wp2_with (fail)
            refine LV.out.mono ?_
            rintro e w5 ⟨rfl, hb5⟩
            have s0 := keep_cellG q0 hb5
            have s1 := keep_cellG q1 hb5
            have s2 := keep_cellG q2 hb5
            have s3 := keep_cellG q3 hb5
            have HOWN := Lib.hid (own_below HO1.out hb5)
            have HON2 := Lib.hid (own_below HON1.out hb5)
            have H0b := Lib.hid (H0a.out.below hb5 H0a.out.lt)
            have H1b := Lib.hid (H1a.out.below hb5 H1a.out.lt)
            have HCGo := Lib.hid (H2a.out.below hb5 H2a.out.lt)
            have HBb := Lib.hid (HBa.out.trans (hb5.mono (Nat.le_trans hg0B HSa.out)))
            have HBS := Lib.hid (Nat.le_trans HSa.out hb5.size)
            obtain ⟨t20, _⟩ := HCGo.out.c0
            obtain ⟨t21, _⟩ := HCGo.out.c1
            clear hb5 q0 q1 q2 q3 e00a e01a e00 e01 e20 e21 f21 d0 d1 d2 d3 LV
            cases hlv : liveL ns ⟨xa, xb, xw, xu⟩
            · have HTF := Lib.hid (show (ls.take (j + 1)).filter (liveL ns) = (ls.take j).filter (liveL ns) from HTK.out.trans (by rw [hlv]; simp))
              go_wp2_with (fail)
              go_roundw
              case rel => exact ⟨j + 1, k2, v2, by omega, by go_num, Lib.hid (by rw [HTF.out]; exact HK.out), Lib.hid (by rw [HTF.out]; exact HOWN.out), HON2, H0b, H1b, HCGo, HBb, HBS⟩
              case measure => simp [intOf]; omega
            · have HTF := Lib.hid (show (ls.take (j + 1)).filter (liveL ns) = (ls.take j).filter (liveL ns) ++ [⟨xa, xb, xw, xu⟩] from HTK.out.trans (by rw [hlv]; simp))
              go_wp2_with (at_builtin; refine wpList_append_one rfl (.tmp 43) (.tmp 45) 23 rfl B 54 iL (.agg #[.int .i64 0, .int .i64 0, .float .f64 0, .bool false]) 4 32 Try.underlying23 hiL hzL0 hzL1 hzL2 rfl (by decide) (by decide) v2 k2 (((ls.take j).filter (liveL ns)).flatMap lkC) rfl HOWN.out (lkC ⟨xa, xb, xw, xu⟩) rfl (oneL _) 54 1 (by simp [Act.eval]) hkb HBS.out ?_; intro v1 w6 hown1 hbel1; obtain ⟨A1, d1, rfl⟩ := own_form hown1; have hz := HCGo.out.below (hbel1 B _ (Below.refl B _) (Nat.le_refl _)) hGb2; have hz0 := hz.c1.1; have hz1 := hz.c1.2; have HZ := Lib.hid hz; have HO := Lib.hid hown1; have HBL := Lib.hid hbel1; clear hz hown1 hbel1)
              go_roundw
              case rel => exact ⟨j + 1, k2 + 1, _, by omega, by go_num, Lib.hid (by rw [HTF.out, List.length_append, ← HK.out]; rfl), Lib.hid (by rw [HTF.out, List.flatMap_append]; exact own_set (by simpa using HO.out) hGb2), Lib.hid (own_set (own_keep HON2.out (HBL.out B _ (Below.refl B _) (Nat.le_refl _)) HOB.out) hGb), Lib.hid ((H0b.out.below (HBL.out B _ (Below.refl B _) (Nat.le_refl _)) (by have := HGG.out; omega)).set (by have := HGG.out; have := HLT.out; omega) _ _), Lib.hid ((H1b.out.below (HBL.out B _ (Below.refl B _) (Nat.le_refl _)) hg1B).set (by have := HLT.out; omega) _ _), Lib.hid (HZ.out.s1 _), Lib.hid ((HBL.out g0 _ HBb.out hg0B).setCell (p := ⟨G, 1, none⟩) (by show _ ≤ G; have := HGG.out; have := HLT.out; omega) _), Lib.hid (Nat.le_trans HBS.out (Nat.le_trans (HBL.out B _ (Below.refl B _) (Nat.le_refl _)).size (by simp [World.setCell])))⟩
              case measure => simp [intOf]; omega
          · obtain rfl : j = m := by omega
            have hlL := HL.out.1
            have HOWB := Lib.hid (show wb.ownsRow B 54 4 v2 k2 ((ls.filter (liveL ns)).flatMap lkC) by have := HOW.out; rw [List.take_of_length_le (by omega)] at this; exact this)
            have HKB := Lib.hid (show k2 = (ls.filter (liveL ns)).length by have := HK.out; rw [List.take_of_length_le (by omega)] at this; exact this)
            obtain ⟨A5, c5, rfl⟩ := own_form HON.out
            obtain ⟨A6, c6, rfl⟩ := own_form HOWB.out
            obtain ⟨e10, f10⟩ := HC1.out.c0
            obtain ⟨e11, f11⟩ := HC1.out.c1
            clear hlL
            go_wp2_with (fail)
            have e := HGG.out
            have e2 := HLT.out
            have e3 := HBla.out
            have e4 := HBE.out
            have e5 := HGE.out
            subst e5
            refine bodyPost_ret (ret_gr rfl _ _ _ rfl rfl ((HC1.out.s0 (.slice A5 k c5)).s1 (.slice A6 k2 c6))) rfl ?_
            rw [HLN.out, HLK.out, ← HKA.out, ← HKB.out, HH0.out]
            exact ⟨_, _, _, _, rfl, own_mono (own_set (own_set HON.out (by omega)) (by omega)) (by omega), own_mono (own_set (own_set HOWB.out (by omega)) (by omega)) (by omega), (HB.out.setCell (p := ⟨g1, 0, none⟩) (by show _ ≤ g1; omega) _).setCell (p := ⟨g1, 1, none⟩) (by show _ ≤ g1; omega) _⟩
  · have HLN := Lib.hid (show liveN ns ls = [] from if_neg h0)
    have HLK := Lib.hid (show liveK ns ls = [] from if_neg h0)
    obtain ⟨e10, f10⟩ := HG12.out.c0
    obtain ⟨e11, f11⟩ := HG12.out.c1
    generalize hrr : chkG ns ls = r at *
    have HRR := Lib.hid hrr
    clear hrr
    go_wp2_with (fail)
    have e := HGG.out
    have e5 := HGE.out
    subst e5
    refine bodyPost_ret (ret_gr rfl _ _ _ rfl rfl ((HG12.out.s0 (.slice none 0 0)).s1 (.slice none 0 0))) rfl ?_
    rw [HLN.out, HLK.out, HRR.out]
    exact ⟨_, _, _, _, rfl, World.ownsRow_nil _ _ _ _, World.ownsRow_nil _ _ _ _, (HB2.out.setCell (p := ⟨g1, 0, none⟩) (by show _ ≤ g1; omega) _).setCell (p := ⟨g1, 1, none⟩) (by show _ ≤ g1; omega) _⟩

end Go.Proofs.Ytgmljlgoaifneaa
