/- Changes one behind the other; the walks of Play, program and reference. Conditions: as each theorem's hypotheses say. -/
import Derived.Test.YtgmljlgoaifneaaGrd
import Derived.Test.YtgmljlgoaifneaaGop
import Derived.Test.YtgmljlgoaifneaaGaw
namespace Go.Proofs.Ytgmljlgoaifneaa
open Go.RowKit Flt Go.Mem Go.Lib
set_option linter.unusedVariables false

attribute [local go_sem] run_store_float
set_option maxHeartbeats 6400000
set_option maxRecDepth 100000
/-- what changes leave, one behind the other: why one may not be done, its place, the graph -/
def playR : List Cg → Nat → List Nd → List Lk → Int × Nat × List Nd × List Lk
  | [], _, ns, ls => (0, 0, ns, ls)
  | x :: l, i, ns, ls => if apE ns ls x.k x.a x.b x.w = 0 then playR l (i + 1) (apN ns ls x.k x.a x.b x.w) (apL ns ls x.k x.a x.b x.w) else (apE ns ls x.k x.a x.b x.w, i, ns, ls)
def playA (l : List Cg) : Int × Nat × List Nd × List Lk := if 65536 < l.length then (2, 0, [], []) else playR l 0 [] []
theorem good_nil : Good [] [] := ⟨by simp, by simp, by simp, List.Pairwise.nil, by simp, List.Pairwise.nil⟩
theorem playR_good : ∀ {l : List Cg} {i : Nat} {ns : List Nd} {ls : List Lk}, Good ns ls → Good (playR l i ns ls).2.2.1 (playR l i ns ls).2.2.2
  | [], _, _, _, h => h
  | x :: l, i, ns, ls, h => by
    unfold playR
    split
    · exact playR_good (ap_good h)
    · exact h
theorem playA_good {l : List Cg} : Good (playA l).2.2.1 (playA l).2.2.2 := by
  unfold playA
  split
  · exact good_nil
  · exact playR_good good_nil
theorem apL_w {ns : List Nd} {ls : List Lk} {k a b : Int} {x : Nat} (hx : x < 18446744073709551616) (h : ∀ y ∈ ls, y.w < 18446744073709551616) : ∀ y ∈ apL ns ls k a b x, y.w < 18446744073709551616 := by
  intro y hy
  unfold apL at hy
  split at hy
  · split at hy
    · rcases mem_addL.1 hy with rfl | hy
      · exact hx
      · exact h y hy
    · split at hy
      · unfold modL at hy
        rcases mem_set' hy with rfl | hy
        · by_cases hi : cntL ls (lkT a b) < ls.length
          · have hm : (lkA ls (cntL ls (lkT a b))).w < 18446744073709551616 := by rw [lkA_get hi]; exact h _ (List.getElem_mem _)
            unfold turnL
            split
            · exact hx
            · split <;> exact hm
          · rw [List.set_eq_of_length_le (by omega)] at hy
            exact h _ hy
        · exact h y hy
      · exact h y hy
  · exact h y hy
theorem playR_w : ∀ {l : List Cg} {i : Nat} {ns : List Nd} {ls : List Lk}, (∀ x ∈ l, cgOk x) → (∀ y ∈ ls, y.w < 18446744073709551616) → ∀ y ∈ (playR l i ns ls).2.2.2, y.w < 18446744073709551616
  | [], _, _, _, _, h => h
  | x :: l, i, ns, ls, hc, h => by
    unfold playR
    split
    · exact playR_w (fun z hz => hc z (List.mem_cons_of_mem _ hz)) (apL_w (hc x (List.mem_cons_self ..)).1 h)
    · exact h
theorem playA_w {l : List Cg} (hc : ∀ x ∈ l, cgOk x) : ∀ y ∈ (playA l).2.2.2, y.w < 18446744073709551616 := by
  unfold playA
  split
  · simp
  · exact playR_w hc (by simp)
def cgA (l : List Cg) (i : Nat) : Cg := l.getD i ⟨0, 0, 0, 0⟩
theorem cgA_some {l : List Cg} {i : Nat} (h : i < l.length) : l[i]? = some (cgA l i) := by
  unfold cgA; rw [List.getD_eq_getElem?_getD, List.getElem?_eq_getElem h]; rfl
theorem cgA_mem {l : List Cg} {i : Nat} (h : i < l.length) : cgA l i ∈ l := by
  have := cgA_some h
  exact List.mem_of_getElem? this
theorem drop_cg {l : List Cg} {i : Nat} (h : i < l.length) : l.drop i = cgA l i :: l.drop (i + 1) := by
  rw [List.drop_eq_getElem_cons h]
  have := cgA_some h
  rw [List.getElem?_eq_getElem h] at this
  injection this with e
  rw [e]
/-- a slice of changes -/
def GCh (w : World) (B : Nat) (A : Option Addr) (n : Nat) (l : List Cg) : Prop := l.length = n ∧ Row w B 4 A n (l.flatMap cgC)
theorem GCh.below {w w' : World} {B n : Nat} {A : Option Addr} {l : List Cg} (h : GCh w B A n l) (hb : Below B w w') : GCh w' B A n l := ⟨h.1, h.2.below hb⟩
theorem GCh.more {w : World} {B B' n : Nat} {A : Option Addr} {l : List Cg} (h : GCh w B A n l) (hB : B ≤ B') : GCh w B' A n l := ⟨h.1, h.2.more hB⟩
theorem GCh.of_own {w : World} {base n c : Nat} {e : TypeId} {A : Option Addr} {l : List Cg} (h : w.ownsRow base e 4 (.slice A n c) n (l.flatMap cgC)) : GCh w w.heap.size A n l :=
  ⟨by have := h.1; rw [flat_len cgC 4 (fun _ => rfl)] at this; omega, Row.of_own h⟩
theorem GCh.at {w : World} {B n : Nat} {A : Option Addr} {l : List Cg} (h : GCh w B A n l) (hn : 0 < n) : ∃ b off, A = some ⟨b, off, none⟩ ∧ b < B ∧ ∀ i, i < n → w.cell? ⟨b, off + i * 4, none⟩ = some (.int .i64 (cgA l i).k) ∧ w.cell? ⟨b, off + (i * 4 + 1), none⟩ = some (.int .i64 (cgA l i).a) ∧ w.cell? ⟨b, off + (i * 4 + 2), none⟩ = some (.int .i64 (cgA l i).b) ∧ w.cell? ⟨b, off + (i * 4 + 3), none⟩ = some (.float .f64 (cgA l i).w) := by
  obtain ⟨b, off, e, hb, hc⟩ := h.2.2 hn
  refine ⟨b, off, e, hb, fun i hi => ?_⟩
  have h0 := flat_get cgC 4 (fun _ => rfl) l i 0 (by omega)
  have h1 := flat_get cgC 4 (fun _ => rfl) l i 1 (by omega)
  have h2 := flat_get cgC 4 (fun _ => rfl) l i 2 (by omega)
  have h3 := flat_get cgC 4 (fun _ => rfl) l i 3 (by omega)
  rw [cgA_some (by rw [h.1]; exact hi)] at h0 h1 h2 h3
  exact ⟨hc _ _ h0, hc _ _ h1, hc _ _ h2, hc _ _ h3⟩
/-- what Play leaves -/
def PPost (R : Int × Nat × List Nd × List Lk) (w : World) (e : Ending) (w' : World) : Prop :=
  ∃ B n' d B2 m' d2, e = .returned (.tuple #[.agg #[.slice B n' d, .slice B2 m' d2], .int .i64 (R.2.1 : Nat), .int .i64 R.1]) ∧ w'.ownsRow w.heap.size 52 3 (.slice B n' d) n' (R.2.2.1.flatMap ndC) ∧ w'.ownsRow w.heap.size 54 4 (.slice B2 m' d2) m' (R.2.2.2.flatMap lkC) ∧ Below w.heap.size w w'
theorem AE_good {ns : List Nd} {ls : List Lk} {k a b : Int} {x : Nat} (g : Good ns ls) : AE ns ls k a b x = apE ns ls k a b x := if_pos g.chk
theorem play_any (A : Option Addr) (n c : Nat) (l : List Cg) (w : World) (hg : GCh w w.heap.size A n l) (hok : ∀ x ∈ l, cgOk x) (hn : n ≤ 1152921504606846976) :
    Calls Try.prog 14 #[.slice A n c] w (PPost (playA l) w) := by
  obtain ⟨R, hR⟩ : ∃ R, R = playA l := ⟨_, rfl⟩
  rw [← hR]
  have HR := Lib.hid hR
  have HC := Lib.hid hg
  have HOK := Lib.hid hok
  have hln : l.length = n := hg.1
  clear hR hg hok
  have hX1 := Go.heap_alloc_new w (.cells #[.slice none 0 0, .slice none 0 0] 25)
  have hX2 := Go.heap_alloc_new (w.alloc (.cells #[.slice none 0 0, .slice none 0 0] 25)) (.cells #[.slice none 0 0, .slice none 0 0] 25)
  have hB3 := ((Below.refl w.heap.size w).alloc (Nat.le_refl _) (.cells #[.slice none 0 0, .slice none 0 0] 25)).alloc (by simp) (.cells #[.slice none 0 0, .slice none 0 0] 25)
  have hx1 : ((w.alloc (.cells #[.slice none 0 0, .slice none 0 0] 25)).alloc (.cells #[.slice none 0 0, .slice none 0 0] 25)).heap[w.heap.size]? = _ := (Go.heap_alloc_old _ _ (by simp)).trans hX1
  have hx2 : ((w.alloc (.cells #[.slice none 0 0, .slice none 0 0] 25)).alloc (.cells #[.slice none 0 0, .slice none 0 0] 25)).heap[w.heap.size + 1]? = some (.cells #[.slice none 0 0, .slice none 0 0] 25 (0, 0)) := by
    rw [show (w.alloc (.cells #[.slice none 0 0, .slice none 0 0] 25)).heap.size = w.heap.size + 1 by simp] at hX2; exact hX2
  clear hX1 hX2
  go_enter Try.func14, Try.ntmps14
  go_upto_region 2 with fail
  generalize (w.alloc (.cells #[.slice none 0 0, .slice none 0 0] 25)).alloc (.cells #[.slice none 0 0, .slice none 0 0] 25) = w1 at *
  generalize hg5 : w.heap.size + 1 = g5 at *
  generalize hg2 : w.heap.size = g2 at *
  have HY2 := Lib.hid (show GB w1 g2 (.slice none 0 0) (.slice none 0 0) from hx1)
  have HY5 := Lib.hid (show GB w1 g5 (.slice none 0 0) (.slice none 0 0) from hx2)
  have HB1 := Lib.hid hB3
  have HGE := Lib.hid hg2
  have HGG := Lib.hid (show g5 = g2 + 1 by omega)
  clear hx1 hx2 hB3 hg2 hg5
  have hsz1 : g5 < w1.heap.size := HY5.out.lt
  have hg25 : g2 < g5 := by have := HGG.out; omega
  obtain ⟨z0, k0⟩ := HY2.out.c0
  obtain ⟨z1, k1⟩ := HY2.out.c1
  obtain ⟨z2, k2⟩ := HY5.out.c0
  obtain ⟨z3, k3⟩ := HY5.out.c1
  by_cases hbig : 65536 < n
  · have hb' : (65536 : Int) < (n : Int) := by omega
    have eqv : (2, 0, [], []) = R := Eq.symm (HR.out.trans (if_pos (by rw [hln]; exact hbig)))
    subst eqv
    go_wp2_with (fail)
    refine bodyPost_ret (ret_graph3 rfl _ _ g2 rfl rfl rfl ((HY2.out.s0 (.slice none 0 0)).s1 (.slice none 0 0))) rfl ?_
    have hge2 := HGE.out
    subst hge2
    exact ⟨none, 0, 0, none, 0, 0, rfl, World.ownsRow_nil _ _ _ _, World.ownsRow_nil _ _ _ _, (HB1.out.setCell (p := ⟨w.heap.size, 0, none⟩) (Nat.le_refl _) _).setCell (p := ⟨w.heap.size, 1, none⟩) (Nat.le_refl _) _⟩
  have hb' : ¬ (65536 : Int) < (n : Int) := by omega
  have HR2 := Lib.hid (show playR l 0 [] [] = R from (HR.out.trans (if_neg (by rw [hln]; exact hbig))).symm)
  obtain ⟨b0, hb0⟩ : ∃ b0, b0 = w1.heap.size := ⟨_, rfl⟩
  have HBZ := Lib.hid hb0
  have h5b : g5 < b0 := by omega
  have HB0 := Lib.hid (show b0 ≤ w1.heap.size by omega)
  clear hb0 z0 k0 z1 k1 z2 k2 z3 k3
  go_wp2_with (fail)
  go_loopw [16] (fun iv wr => ∃ (i : Nat) (ns : List Nd) (ls : List Lk) (X : Option Addr) (p x1 : Nat) (Y : Option Addr) (q y1 : Nat), i ≤ n ∧ iv = .int .i64 i ∧ Hid (Good ns ls) ∧ Hid (∀ y ∈ ls, y.w < 18446744073709551616) ∧ Hid (playR (l.drop i) i ns ls = R) ∧ Hid (GB wr g5 (.slice X p x1) (.slice Y q y1)) ∧ Hid (GB wr g2 (.slice none 0 0) (.slice none 0 0)) ∧ Hid (wr.ownsRow b0 52 3 (.slice X p x1) p (ns.flatMap ndC)) ∧ Hid (wr.ownsRow b0 54 4 (.slice Y q y1) q (ls.flatMap lkC)) ∧ Hid (Below g2 w wr) ∧ Hid (b0 ≤ wr.heap.size)) (fun iv _ => n - (intOf iv).toNat)
  case atStart => exact ⟨0, [], [], none, 0, 0, none, 0, 0, Nat.zero_le _, rfl, Lib.hid good_nil, Lib.hid (by simp), Lib.hid (by rw [List.drop_zero]; exact HR2.out), HY5, HY2, Lib.hid (World.ownsRow_nil _ _ _ _), Lib.hid (World.ownsRow_nil _ _ _ _), HB1, HB0⟩
  case round =>
    obtain ⟨i, ns, ls, X, p, x1, Y, q, y1, hi, rfl, HGD, HWW, HPR, HG5, HG2, HON, HOL, HB, HS⟩ := hrel
    obtain ⟨wa, rfl⟩ : ∃ wa : World, wa = wr := ⟨_, rfl⟩
    obtain ⟨e50, f50⟩ := HG5.out.c0
    obtain ⟨e51, f51⟩ := HG5.out.c1
    by_cases hin : i < n
    · obtain ⟨b, off, rfl, hbl, hc⟩ := HC.out.at (by omega)
      obtain ⟨c0, c1, c2', c3⟩ := hc i hin
      have hblg : b < g2 := by have := HGE.out; omega
      have d0 := (HB.out.cell (p := ⟨b, off + i * 4, none⟩) hblg).trans c0
      have d1 := (HB.out.cell (p := ⟨b, off + (i * 4 + 1), none⟩) hblg).trans c1
      have d2 := (HB.out.cell (p := ⟨b, off + (i * 4 + 2), none⟩) hblg).trans c2'
      have d3 := (HB.out.cell (p := ⟨b, off + (i * 4 + 3), none⟩) hblg).trans c3
      rw [← Nat.add_assoc] at d1 d2 d3
      have HOKx := Lib.hid (HOK.out _ (cgA_mem (l := l) (i := i) (by omega)))
      have HDR := Lib.hid (drop_cg (l := l) (i := i) (by omega))
      obtain ⟨x, hx⟩ : ∃ x, x = cgA l i := ⟨_, rfl⟩
      rw [← hx] at d0 d1 d2 d3 HOKx HDR
      obtain ⟨ck, ca, cb, cw⟩ := x
      clear hc c0 c1 c2' c3 hx
      obtain ⟨E, hE⟩ : ∃ E, E = apE ns ls ck ca cb cw := ⟨_, rfl⟩
      have HE := Lib.hid hE
      have HP2 := Lib.hid (show (if apE ns ls ck ca cb cw = 0 then playR (l.drop (i + 1)) (i + 1) (apN ns ls ck ca cb cw) (apL ns ls ck ca cb cw) else (apE ns ls ck ca cb cw, i, ns, ls)) = R by have q := HPR.out; rw [HDR.out] at q; exact q)
      have hcw : cw < 18446744073709551616 := HOKx.out.1
      clear hE
      have HA := Lib.hid ((Below.refl wa.heap.size wa).alloc (Nat.le_refl _) (.cells #[.int .i64 ck, .int .i64 ca, .int .i64 cb, .float .f64 cw] 38))
      have HG5a := Lib.hid (HG5.out.alloc (.cells #[.int .i64 ck, .int .i64 ca, .int .i64 cb, .float .f64 cw] 38))
      have HG2a := Lib.hid (HG2.out.alloc (.cells #[.int .i64 ck, .int .i64 ca, .int .i64 cb, .float .f64 cw] 38))
      have HONa := Lib.hid (World.ownsRow.alloc HON.out (.cells #[.int .i64 ck, .int .i64 ca, .int .i64 cb, .float .f64 cw] 38))
      have HOLa := Lib.hid (World.ownsRow.alloc HOL.out (.cells #[.int .i64 ck, .int .i64 ca, .int .i64 cb, .float .f64 cw] 38))
      have hg2a : g2 ≤ wa.heap.size := by have := HS.out; omega
      have HBa := Lib.hid (HB.out.alloc hg2a (.cells #[.int .i64 ck, .int .i64 ca, .int .i64 cb, .float .f64 cw] 38))
      have HSa := Lib.hid (Nat.le_trans HS.out HA.out.size)
      have x50 := HG5a.out.c0.1
      have x51 := HG5a.out.c1.1
      go_wp2_with (fail)
      generalize wa.alloc (.cells #[.int .i64 ck, .int .i64 ca, .int .i64 cb, .float .f64 cw] 38) = wb at *
      refine (apply_any X Y p x1 q y1 b0 ck ca cb cw ns ls _ HONa.out HOLa.out HSa.out HGD.out hcw).mono ?_
      rw [← HE.out]
      rintro e w5 ⟨X', p', x1', Y', q', y1', rfl, o1, o2, hb5, _, hsame⟩
      have HK5c := Lib.hid (HG5a.out.below hb5 (by omega))
      have HK2c := Lib.hid (HG2a.out.below hb5 (by omega))
      have HKBc := Lib.hid (HBa.out.trans (hb5.mono (show g2 ≤ b0 by omega)))
      have hg2s : g2 ≤ w5.heap.size := by have := HK2c.out.lt; omega
      have hb5s : b0 ≤ w5.heap.size := Nat.le_trans HSa.out hb5.size
      have HR1 := Lib.hid (World.ownsRow.alloc o1 (.cells #[.slice X' p' x1', .slice Y' q' y1'] 25))
      have HR2' := Lib.hid (World.ownsRow.alloc o2 (.cells #[.slice X' p' x1', .slice Y' q' y1'] 25))
      have HK5 := Lib.hid (HK5c.out.alloc (.cells #[.slice X' p' x1', .slice Y' q' y1'] 25))
      have HK2 := Lib.hid (HK2c.out.alloc (.cells #[.slice X' p' x1', .slice Y' q' y1'] 25))
      have HKB := Lib.hid (HKBc.out.alloc hg2s (.cells #[.slice X' p' x1', .slice Y' q' y1'] 25))
      have HKS := Lib.hid (Nat.le_trans hb5s ((Below.refl w5.heap.size w5).alloc (Nat.le_refl _) (.cells #[.slice X' p' x1', .slice Y' q' y1'] 25)).size)
      have HT7 := Lib.hid (show GB (w5.alloc (.cells #[.slice X' p' x1', .slice Y' q' y1'] 25)) w5.heap.size (.slice X' p' x1') (.slice Y' q' y1') from Go.heap_alloc_new w5 _)
      have HSM := Lib.hid hsame
      clear o1 o2 hb5 hsame e50 f50 e51 f51 x50 x51 d0 d1 d2 d3
      by_cases h0 : E = 0
      · obtain ⟨z0, k0⟩ := HK5.out.c0
        obtain ⟨z1, k1⟩ := HK5.out.c1
        have t0 := HT7.out.c0.1
        have t1 := HT7.out.c1.1
        subst h0
        go_wp2_with (fail)
        go_roundw
        case rel => exact ⟨i + 1, apN ns ls ck ca cb cw, apL ns ls ck ca cb cw, X', p', x1', Y', q', y1', by omega, by go_num, Lib.hid (ap_good HGD.out), Lib.hid (apL_w hcw HWW.out), Lib.hid (by have q := HP2.out; rw [if_pos HE.out.symm] at q; exact q), Lib.hid ((HK5.out.s0 _).s1 _), Lib.hid ((HK2.out.set (by omega) _ _).set (by omega) _ _), Lib.hid (own_set (own_set HR1.out (by omega)) (by omega)), Lib.hid (own_set (own_set HR2'.out (by omega)) (by omega)), Lib.hid ((HKB.out.setCell (p := ⟨g5, 0, none⟩) (by show _ ≤ g5; omega) _).setCell (p := ⟨g5, 1, none⟩) (by show _ ≤ g5; omega) _), Lib.hid (by have := HKS.out; simp only [World.setCell]; simpa using this)⟩
        case measure => simp [intOf]; omega
      · have hsm := HSM.out h0
        obtain ⟨a1, a2, a3, a4, a5, a6⟩ := hsm
        replace a1 := a1.symm
        replace a2 := a2.symm
        replace a3 := a3.symm
        replace a4 := a4.symm
        replace a5 := a5.symm
        replace a6 := a6.symm
        subst a1 a2 a3 a4 a5 a6
        have heq : apN ns ls ck ca cb cw = ns ∧ apL ns ls ck ca cb cw = ls := by
          have h1 : ¬ apE ns ls ck ca cb cw = 0 := by rw [← HE.out]; exact h0
          exact ⟨by unfold apN; rw [if_neg h1], by unfold apL; rw [if_neg h1]⟩
        have HKN := Lib.hid (by have q := HR1.out; rw [heq.1] at q; exact q)
        have HKL := Lib.hid (by have q := HR2'.out; rw [heq.2] at q; exact q)
        clear heq
        have eqv : (E, i, ns, ls) = R := (by have q := HP2.out; rw [if_neg (by rw [← HE.out]; exact h0), ← HE.out] at q; exact q)
        subst eqv
        obtain ⟨z0, k0⟩ := HK2.out.c0
        obtain ⟨z1, k1⟩ := HK2.out.c1
        have t0 := HK5.out.c0.1
        have t1 := HK5.out.c1.1
        go_wp2_with (fail)
        refine bodyPost_ret (ret_graph3 rfl _ _ g2 rfl rfl rfl ((HK2.out.s0 (.slice X p x1)).s1 (.slice Y q y1))) rfl ?_
        have hge2 := HGE.out
        subst hge2
        exact ⟨X, p, x1, Y, q, y1, rfl, own_mono (own_set (own_set HKN.out (by omega)) (by omega)) (by omega), own_mono (own_set (own_set HKL.out (by omega)) (by omega)) (by omega), (HKB.out.setCell (p := ⟨w.heap.size, 0, none⟩) (Nat.le_refl _) _).setCell (p := ⟨w.heap.size, 1, none⟩) (Nat.le_refl _) _⟩
    · obtain rfl : i = n := by omega
      have HF := Lib.hid (show (0, 0, ns, ls) = R by have q := HPR.out; rw [List.drop_of_length_le (by omega)] at q; exact q)
      have eqv := HF.out
      subst eqv
      obtain ⟨z0, k0⟩ := HG2.out.c0
      obtain ⟨z1, k1⟩ := HG2.out.c1
      go_wp2_with (fail)
      refine bodyPost_ret (ret_graph3 rfl _ _ g2 rfl rfl rfl ((HG2.out.s0 (.slice X p x1)).s1 (.slice Y q y1))) rfl ?_
      have hge2 := HGE.out
      subst hge2
      exact ⟨X, p, x1, Y, q, y1, rfl, own_mono (own_set (own_set HON.out (by omega)) (by omega)) (by omega), own_mono (own_set (own_set HOL.out (by omega)) (by omega)) (by omega), (HB.out.setCell (p := ⟨w.heap.size, 0, none⟩) (Nat.le_refl _) _).setCell (p := ⟨w.heap.size, 1, none⟩) (Nat.le_refl _) _⟩
theorem rplay_any (A : Option Addr) (n c : Nat) (l : List Cg) (w : World) (hg : GCh w w.heap.size A n l) (hok : ∀ x ∈ l, cgOk x) (hn : n ≤ 1152921504606846976) :
    Calls Try.prog 15 #[.slice A n c] w (PPost (playA l) w) := by
  obtain ⟨R, hR⟩ : ∃ R, R = playA l := ⟨_, rfl⟩
  rw [← hR]
  have HR := Lib.hid hR
  have HC := Lib.hid hg
  have HOK := Lib.hid hok
  have hln : l.length = n := hg.1
  clear hR hg hok
  have hX1 := Go.heap_alloc_new w (.cells #[.slice none 0 0, .slice none 0 0] 25)
  have hX2 := Go.heap_alloc_new (w.alloc (.cells #[.slice none 0 0, .slice none 0 0] 25)) (.cells #[.slice none 0 0, .slice none 0 0] 25)
  have hB3 := ((Below.refl w.heap.size w).alloc (Nat.le_refl _) (.cells #[.slice none 0 0, .slice none 0 0] 25)).alloc (by simp) (.cells #[.slice none 0 0, .slice none 0 0] 25)
  have hx1 : ((w.alloc (.cells #[.slice none 0 0, .slice none 0 0] 25)).alloc (.cells #[.slice none 0 0, .slice none 0 0] 25)).heap[w.heap.size]? = _ := (Go.heap_alloc_old _ _ (by simp)).trans hX1
  have hx2 : ((w.alloc (.cells #[.slice none 0 0, .slice none 0 0] 25)).alloc (.cells #[.slice none 0 0, .slice none 0 0] 25)).heap[w.heap.size + 1]? = some (.cells #[.slice none 0 0, .slice none 0 0] 25 (0, 0)) := by
    rw [show (w.alloc (.cells #[.slice none 0 0, .slice none 0 0] 25)).heap.size = w.heap.size + 1 by simp] at hX2; exact hX2
  clear hX1 hX2
  go_enter Try.func15, Try.ntmps15
  go_upto_region 2 with fail
  generalize (w.alloc (.cells #[.slice none 0 0, .slice none 0 0] 25)).alloc (.cells #[.slice none 0 0, .slice none 0 0] 25) = w1 at *
  generalize hg5 : w.heap.size + 1 = g5 at *
  generalize hg2 : w.heap.size = g2 at *
  have HY2 := Lib.hid (show GB w1 g2 (.slice none 0 0) (.slice none 0 0) from hx1)
  have HY5 := Lib.hid (show GB w1 g5 (.slice none 0 0) (.slice none 0 0) from hx2)
  have HB1 := Lib.hid hB3
  have HGE := Lib.hid hg2
  have HGG := Lib.hid (show g5 = g2 + 1 by omega)
  clear hx1 hx2 hB3 hg2 hg5
  have hsz1 : g5 < w1.heap.size := HY5.out.lt
  have hg25 : g2 < g5 := by have := HGG.out; omega
  obtain ⟨z0, k0⟩ := HY2.out.c0
  obtain ⟨z1, k1⟩ := HY2.out.c1
  obtain ⟨z2, k2⟩ := HY5.out.c0
  obtain ⟨z3, k3⟩ := HY5.out.c1
  by_cases hbig : 65536 < n
  · have hb' : (65536 : Int) < (n : Int) := by omega
    have eqv : (2, 0, [], []) = R := Eq.symm (HR.out.trans (if_pos (by rw [hln]; exact hbig)))
    subst eqv
    go_wp2_with (fail)
    refine bodyPost_ret (ret_graph3 rfl _ _ g2 rfl rfl rfl ((HY2.out.s0 (.slice none 0 0)).s1 (.slice none 0 0))) rfl ?_
    have hge2 := HGE.out
    subst hge2
    exact ⟨none, 0, 0, none, 0, 0, rfl, World.ownsRow_nil _ _ _ _, World.ownsRow_nil _ _ _ _, (HB1.out.setCell (p := ⟨w.heap.size, 0, none⟩) (Nat.le_refl _) _).setCell (p := ⟨w.heap.size, 1, none⟩) (Nat.le_refl _) _⟩
  have hb' : ¬ (65536 : Int) < (n : Int) := by omega
  have HR2 := Lib.hid (show playR l 0 [] [] = R from (HR.out.trans (if_neg (by rw [hln]; exact hbig))).symm)
  obtain ⟨b0, hb0⟩ : ∃ b0, b0 = w1.heap.size := ⟨_, rfl⟩
  have HBZ := Lib.hid hb0
  have h5b : g5 < b0 := by omega
  have HB0 := Lib.hid (show b0 ≤ w1.heap.size by omega)
  clear hb0 z0 k0 z1 k1 z2 k2 z3 k3
  go_wp2_with (fail)
  go_loopw [6] (fun iv wr => ∃ (i : Nat) (ns : List Nd) (ls : List Lk) (X : Option Addr) (p x1 : Nat) (Y : Option Addr) (q y1 : Nat), i ≤ n ∧ iv = .int .i64 i ∧ Hid (Good ns ls) ∧ Hid (∀ y ∈ ls, y.w < 18446744073709551616) ∧ Hid (playR (l.drop i) i ns ls = R) ∧ Hid (GB wr g5 (.slice X p x1) (.slice Y q y1)) ∧ Hid (GB wr g2 (.slice none 0 0) (.slice none 0 0)) ∧ Hid (wr.ownsRow b0 52 3 (.slice X p x1) p (ns.flatMap ndC)) ∧ Hid (wr.ownsRow b0 54 4 (.slice Y q y1) q (ls.flatMap lkC)) ∧ Hid (Below g2 w wr) ∧ Hid (b0 ≤ wr.heap.size)) (fun iv _ => n - (intOf iv).toNat)
  case atStart => exact ⟨0, [], [], none, 0, 0, none, 0, 0, Nat.zero_le _, rfl, Lib.hid good_nil, Lib.hid (by simp), Lib.hid (by rw [List.drop_zero]; exact HR2.out), HY5, HY2, Lib.hid (World.ownsRow_nil _ _ _ _), Lib.hid (World.ownsRow_nil _ _ _ _), HB1, HB0⟩
  case round =>
    obtain ⟨i, ns, ls, X, p, x1, Y, q, y1, hi, rfl, HGD, HWW, HPR, HG5, HG2, HON, HOL, HB, HS⟩ := hrel
    obtain ⟨wa, rfl⟩ : ∃ wa : World, wa = wr := ⟨_, rfl⟩
    obtain ⟨e50, f50⟩ := HG5.out.c0
    obtain ⟨e51, f51⟩ := HG5.out.c1
    by_cases hin : i < n
    · obtain ⟨b, off, rfl, hbl, hc⟩ := HC.out.at (by omega)
      obtain ⟨c0, c1, c2', c3⟩ := hc i hin
      have hblg : b < g2 := by have := HGE.out; omega
      have d0 := (HB.out.cell (p := ⟨b, off + i * 4, none⟩) hblg).trans c0
      have d1 := (HB.out.cell (p := ⟨b, off + (i * 4 + 1), none⟩) hblg).trans c1
      have d2 := (HB.out.cell (p := ⟨b, off + (i * 4 + 2), none⟩) hblg).trans c2'
      have d3 := (HB.out.cell (p := ⟨b, off + (i * 4 + 3), none⟩) hblg).trans c3
      rw [← Nat.add_assoc] at d1 d2 d3
      have HOKx := Lib.hid (HOK.out _ (cgA_mem (l := l) (i := i) (by omega)))
      have HDR := Lib.hid (drop_cg (l := l) (i := i) (by omega))
      obtain ⟨x, hx⟩ : ∃ x, x = cgA l i := ⟨_, rfl⟩
      rw [← hx] at d0 d1 d2 d3 HOKx HDR
      obtain ⟨ck, ca, cb, cw⟩ := x
      clear hc c0 c1 c2' c3 hx
      obtain ⟨E, hE⟩ : ∃ E, E = apE ns ls ck ca cb cw := ⟨_, rfl⟩
      have HE := Lib.hid hE
      have HP2 := Lib.hid (show (if apE ns ls ck ca cb cw = 0 then playR (l.drop (i + 1)) (i + 1) (apN ns ls ck ca cb cw) (apL ns ls ck ca cb cw) else (apE ns ls ck ca cb cw, i, ns, ls)) = R by have q := HPR.out; rw [HDR.out] at q; exact q)
      have hcw : cw < 18446744073709551616 := HOKx.out.1
      clear hE
      have HGN := Lib.hid (GN.of_own HON.out)
      have HGL := Lib.hid (GL.of_own HOL.out)
      have hp256 : p ≤ 256 := by have := HGN.out.1; have := HGD.out.n; omega
      have hq4096 : q ≤ 4096 := by have := HGL.out.1; have := HGD.out.l; omega
      have HWT := Lib.hid (fun (j : Nat) (hj : j < q) => (by rw [lkA_get (by rw [HGL.out.1]; exact hj)]; exact HWW.out _ (List.getElem_mem _) : (lkA ls j).w < 18446744073709551616))
      have HAEE := Lib.hid (show AE ns ls ck ca cb cw = E from (AE_good HGD.out).trans HE.out.symm)
      have hd1 := (Below.refl wa.heap.size wa).drew
      have HD1 := Lib.hid hd1
      have HD2 := Lib.hid (fun o => hd1.alloc (Nat.le_refl wa.heap.size) o)
      have HD3 := Lib.hid (fun o => ((Below.refl wa.heap.size wa).alloc (Nat.le_refl wa.heap.size) o).drew)
      have e50a := fun o => alloc_keep e50 o
      have e51a := fun o => alloc_keep e51 o
      have d0a := fun o => alloc_keep d0 o
      have d1a := fun o => alloc_keep d1 o
      have d2a := fun o => alloc_keep d2 o
      have d3a := fun o => alloc_keep d3 o
      have hg2a : g2 ≤ wa.heap.size := by have := HS.out; omega
      have HG5L := Lib.hid HG5.out.lt
      have HG2L := Lib.hid HG2.out.lt
      clear hd1
      go_wp2_with (fail)
      go_region_law (first | (go_simp; go_at_call 18; refine (rapply_any X Y p x1 q y1 ck ca cb cw ns ls _ (by first | exact (HGN.out.below HD1.out).more HD1.out.size | exact (HGN.out.below (HD2.out _)).more (HD2.out _).size | exact (HGN.out.below (HD3.out _)).more (HD3.out _).size) (by first | exact (HGL.out.below HD1.out).more HD1.out.size | exact (HGL.out.below (HD2.out _)).more (HD2.out _).size | exact (HGL.out.below (HD3.out _)).more (HD3.out _).size) HWT.out HOKx.out.1 (by omega) (by omega)).mono ?_; rw [HAEE.out]; rintro e w5 ⟨X', p', x1', Y', q', y1', rfl, o1, o2, hb5⟩; have HB5 : Hid (Below wa.heap.size wa w5) := (by first | exact Lib.hid (HD1.out.trans (hb5.mono HD1.out.size)) | exact Lib.hid ((HD2.out _).trans (hb5.mono (HD2.out _).size)) | exact Lib.hid ((HD3.out _).trans (hb5.mono (HD3.out _).size))); have HO1 : Hid (w5.ownsRow wa.heap.size 52 3 (.slice X' p' x1') p' ((AN ns ls ck ca cb cw).flatMap ndC)) := (by first | exact Lib.hid (own_mono o1 HD1.out.size) | exact Lib.hid (own_mono o1 (HD2.out _).size) | exact Lib.hid (own_mono o1 (HD3.out _).size)); have HO2 : Hid (w5.ownsRow wa.heap.size 54 4 (.slice Y' q' y1') q' ((AL ns ls ck ca cb cw).flatMap lkC)) := (by first | exact Lib.hid (own_mono o2 HD1.out.size) | exact Lib.hid (own_mono o2 (HD2.out _).size) | exact Lib.hid (own_mono o2 (HD3.out _).size)); (first | (change Below ((wa.alloc (.cells #[.slice none 0 0, .slice none 0 0] 25)).drew).heap.size ((wa.alloc (.cells #[.slice none 0 0, .slice none 0 0] 25)).drew) w5 at hb5; have KZ := Lib.hid (zero_keepG hb5); have z0 := KZ.out.c0; have z1 := KZ.out.c1) | skip); clear o1 o2 hb5))
      all_goals
        clear e50 f50 e51 f51 e50a e51a d0 d1 d2 d3 d0a d1a d2a d3a
        have HK5c := Lib.hid (HG5.out.below HB5.out HG5L.out)
        have HK2c := Lib.hid (HG2.out.below HB5.out HG2L.out)
        have HKNc := Lib.hid (own_below HON.out HB5.out)
        have HKLc := Lib.hid (own_below HOL.out HB5.out)
        have HKBc := Lib.hid (HB.out.trans (HB5.out.mono hg2a))
        have HKSc := Lib.hid (Nat.le_trans HS.out HB5.out.size)
        have hws : wa.heap.size ≤ w5.heap.size := HB5.out.size
        have HAN := Lib.hid (fun (h : E = 0) => (by unfold AN; rw [if_pos (by rw [HAEE.out]; exact h)] : AN ns ls ck ca cb cw = apN ns ls ck ca cb cw))
        have HAL := Lib.hid (fun (h : E = 0) => (by unfold AL; rw [if_pos (by rw [HAEE.out]; exact h)] : AL ns ls ck ca cb cw = apL ns ls ck ca cb cw))
        have HSW := Lib.hid HS.out
        first
          | (have hzz := KZ.out
             have HT7 := Lib.hid ((hzz.s0 (.slice X' p' x1')).s1 (.slice Y' q' y1'))
             have HK5 := Lib.hid ((HK5c.out.set (show g5 ≠ wa.heap.size by have := HG5L.out; omega) 0 (.slice X' p' x1')).set (show g5 ≠ wa.heap.size by have := HG5L.out; omega) 1 (.slice Y' q' y1'))
             have HK2 := Lib.hid ((HK2c.out.set (show g2 ≠ wa.heap.size by have := HG2L.out; omega) 0 (.slice X' p' x1')).set (show g2 ≠ wa.heap.size by have := HG2L.out; omega) 1 (.slice Y' q' y1'))
             have HKN := Lib.hid (own_set2 (j := 1) (u := .slice Y' q' y1') (own_set2 (j := 0) (u := .slice X' p' x1') HKNc.out (own_neG HKNc.out hzz (by decide))) (own_neG HKNc.out hzz (by decide)))
             have HKL := Lib.hid (own_set2 (j := 1) (u := .slice Y' q' y1') (own_set2 (j := 0) (u := .slice X' p' x1') HKLc.out (own_neG HKLc.out hzz (by decide))) (own_neG HKLc.out hzz (by decide)))
             have HKB := Lib.hid ((HKBc.out.setCell (p := ⟨wa.heap.size, 0, none⟩) hg2a (.slice X' p' x1')).setCell (p := ⟨wa.heap.size, 1, none⟩) hg2a (.slice Y' q' y1'))
             have HKS := Lib.hid (show b0 ≤ ((w5.setCell ⟨wa.heap.size, 0, none⟩ (.slice X' p' x1')).setCell ⟨wa.heap.size, 1, none⟩ (.slice Y' q' y1')).heap.size by have := HKSc.out; simp [World.setCell]; exact this)
             have HR1 := Lib.hid (fun (h : E = 0) => (by have q := HO1.out; rw [HAN.out h] at q; exact own_mono (own_set2 (j := 1) (u := .slice Y' q' y1') (own_set2 (j := 0) (u := .slice X' p' x1') q (own_neG q hzz (by decide))) (own_neG q hzz (by decide))) HSW.out : ((w5.setCell ⟨wa.heap.size, 0, none⟩ (.slice X' p' x1')).setCell ⟨wa.heap.size, 1, none⟩ (.slice Y' q' y1')).ownsRow b0 52 3 (.slice X' p' x1') p' ((apN ns ls ck ca cb cw).flatMap ndC)))
             have HR2' := Lib.hid (fun (h : E = 0) => (by have q := HO2.out; rw [HAL.out h] at q; exact own_mono (own_set2 (j := 1) (u := .slice Y' q' y1') (own_set2 (j := 0) (u := .slice X' p' x1') q (own_neG q hzz (by decide))) (own_neG q hzz (by decide))) HSW.out : ((w5.setCell ⟨wa.heap.size, 0, none⟩ (.slice X' p' x1')).setCell ⟨wa.heap.size, 1, none⟩ (.slice Y' q' y1')).ownsRow b0 54 4 (.slice Y' q' y1') q' ((apL ns ls ck ca cb cw).flatMap lkC)))
             clear hzz KZ z0 z1
             generalize (w5.setCell ⟨wa.heap.size, 0, none⟩ (.slice X' p' x1')).setCell ⟨wa.heap.size, 1, none⟩ (.slice Y' q' y1') = wz at *
             generalize wa.heap.size = t7 at *)
          | (have HT7 := Lib.hid (show GB (w5.alloc (.cells #[.slice X' p' x1', .slice Y' q' y1'] 25)) w5.heap.size (.slice X' p' x1') (.slice Y' q' y1') from Go.heap_alloc_new w5 _)
             have HK5 := Lib.hid (HK5c.out.alloc (.cells #[.slice X' p' x1', .slice Y' q' y1'] 25))
             have HK2 := Lib.hid (HK2c.out.alloc (.cells #[.slice X' p' x1', .slice Y' q' y1'] 25))
             have HKN := Lib.hid (World.ownsRow.alloc HKNc.out (.cells #[.slice X' p' x1', .slice Y' q' y1'] 25))
             have HKL := Lib.hid (World.ownsRow.alloc HKLc.out (.cells #[.slice X' p' x1', .slice Y' q' y1'] 25))
             have HKB := Lib.hid (HKBc.out.alloc (show g2 ≤ w5.heap.size by omega) (.cells #[.slice X' p' x1', .slice Y' q' y1'] 25))
             have HKS := Lib.hid (Nat.le_trans HKSc.out ((Below.refl w5.heap.size w5).alloc (Nat.le_refl _) (.cells #[.slice X' p' x1', .slice Y' q' y1'] 25)).size)
             have HR1 := Lib.hid (fun (h : E = 0) => (by have q := HO1.out; rw [HAN.out h] at q; exact own_mono (World.ownsRow.alloc q _) HSW.out : (w5.alloc (.cells #[.slice X' p' x1', .slice Y' q' y1'] 25)).ownsRow b0 52 3 (.slice X' p' x1') p' ((apN ns ls ck ca cb cw).flatMap ndC)))
             have HR2' := Lib.hid (fun (h : E = 0) => (by have q := HO2.out; rw [HAL.out h] at q; exact own_mono (World.ownsRow.alloc q _) HSW.out : (w5.alloc (.cells #[.slice X' p' x1', .slice Y' q' y1'] 25)).ownsRow b0 54 4 (.slice Y' q' y1') q' ((apL ns ls ck ca cb cw).flatMap lkC)))
             generalize w5.alloc (.cells #[.slice X' p' x1', .slice Y' q' y1'] 25) = wz at *
             generalize w5.heap.size = t7 at *)
        by_cases h0 : E = 0
        · obtain ⟨z0, k0⟩ := HK5.out.c0
          obtain ⟨z1, k1⟩ := HK5.out.c1
          have t0 := HT7.out.c0.1
          have t1 := HT7.out.c1.1
          subst h0
          go_wp2_with (fail)
          go_roundw
          case rel => exact ⟨i + 1, apN ns ls ck ca cb cw, apL ns ls ck ca cb cw, X', p', x1', Y', q', y1', by omega, by go_num, Lib.hid (ap_good HGD.out), Lib.hid (apL_w hcw HWW.out), Lib.hid (by have q := HP2.out; rw [if_pos HE.out.symm] at q; exact q), Lib.hid ((HK5.out.s0 _).s1 _), Lib.hid ((HK2.out.set (by omega) _ _).set (by omega) _ _), Lib.hid (own_set (own_set (HR1.out rfl) (by omega)) (by omega)), Lib.hid (own_set (own_set (HR2'.out rfl) (by omega)) (by omega)), Lib.hid ((HKB.out.setCell (p := ⟨g5, 0, none⟩) (by show _ ≤ g5; omega) _).setCell (p := ⟨g5, 1, none⟩) (by show _ ≤ g5; omega) _), Lib.hid (by have := HKS.out; simp only [World.setCell]; simpa using this)⟩
          case measure => simp [intOf]; omega
        · have eqv : (E, i, ns, ls) = R := (by have q := HP2.out; rw [if_neg (by rw [← HE.out]; exact h0), ← HE.out] at q; exact q)
          subst eqv
          obtain ⟨z0, k0⟩ := HK2.out.c0
          obtain ⟨z1, k1⟩ := HK2.out.c1
          have t0 := HK5.out.c0.1
          have t1 := HK5.out.c1.1
          go_wp2_with (fail)
          refine bodyPost_ret (ret_graph3 rfl _ _ g2 rfl rfl rfl ((HK2.out.s0 (.slice X p x1)).s1 (.slice Y q y1))) rfl ?_
          have hge2 := HGE.out
          subst hge2
          exact ⟨X, p, x1, Y, q, y1, rfl, own_mono (own_set (own_set HKN.out (by omega)) (by omega)) (by omega), own_mono (own_set (own_set HKL.out (by omega)) (by omega)) (by omega), (HKB.out.setCell (p := ⟨w.heap.size, 0, none⟩) (Nat.le_refl _) _).setCell (p := ⟨w.heap.size, 1, none⟩) (Nat.le_refl _) _⟩
    · obtain rfl : i = n := by omega
      have HF := Lib.hid (show (0, 0, ns, ls) = R by have q := HPR.out; rw [List.drop_of_length_le (by omega)] at q; exact q)
      have eqv := HF.out
      subst eqv
      obtain ⟨z0, k0⟩ := HG2.out.c0
      obtain ⟨z1, k1⟩ := HG2.out.c1
      go_wp2_with (fail)
      refine bodyPost_ret (ret_graph3 rfl _ _ g2 rfl rfl rfl ((HG2.out.s0 (.slice X p x1)).s1 (.slice Y q y1))) rfl ?_
      have hge2 := HGE.out
      subst hge2
      exact ⟨X, p, x1, Y, q, y1, rfl, own_mono (own_set (own_set HON.out (by omega)) (by omega)) (by omega), own_mono (own_set (own_set HOL.out (by omega)) (by omega)) (by omega), (HB.out.setCell (p := ⟨w.heap.size, 0, none⟩) (Nat.le_refl _) _).setCell (p := ⟨w.heap.size, 1, none⟩) (Nat.le_refl _) _⟩

end Go.Proofs.Ytgmljlgoaifneaa
