/- The walks of the deeds that add a router or a link, anywhere. Conditions: as each theorem's hypotheses say. -/
import Derived.Test.YtgmljlgoaifneaaGdp
import Derived.Test.YtgmljlgoaifneaaGis
import Derived.Test.YtgmljlgoaifneaaGwl
namespace Go.Proofs.Ytgmljlgoaifneaa
open Go.RowKit Flt Go.Mem Go.Lib
set_option linter.unusedVariables false

attribute [local go_sem] run_store_float
set_option maxHeartbeats 1600000
set_option maxRecDepth 100000
theorem flat_take {α : Type} (f : α → List Value) (k : Nat) (hf : ∀ x, (f x).length = k) : ∀ (l : List α) (i : Nat), (l.flatMap f).take (i * k) = (l.take i).flatMap f
  | [], i => by simp
  | x :: l, 0 => by simp
  | x :: l, i + 1 => by
    rw [List.flatMap_cons, List.take_succ_cons, List.flatMap_cons, Nat.succ_mul, Nat.add_comm, ← hf x, List.take_length_add_append, hf, flat_take f k hf l i]
theorem flat_drop {α : Type} (f : α → List Value) (k : Nat) (hf : ∀ x, (f x).length = k) : ∀ (l : List α) (i : Nat), (l.flatMap f).drop (i * k) = (l.drop i).flatMap f
  | [], i => by simp
  | x :: l, 0 => by simp
  | x :: l, i + 1 => by
    rw [List.flatMap_cons, List.drop_succ_cons, Nat.succ_mul, Nat.add_comm, ← hf x, List.drop_length_add_append, hf, flat_drop f k hf l i]
theorem flat_ins {α : Type} (f : α → List Value) (k : Nat) (hf : ∀ x, (f x).length = k) (l : List α) (i : Nat) (x : α) : (l.flatMap f).take (i * k) ++ f x ++ (l.flatMap f).drop (i * k) = (l.take i ++ [x] ++ l.drop i).flatMap f := by
  rw [flat_take f k hf, flat_drop f k hf]
  simp [List.flatMap_append]
theorem oneNs (l : List Nd) : ∀ u ∈ l.flatMap ndC, u.oneCell' = true := by
  intro u hu
  obtain ⟨x, _, h⟩ := List.mem_flatMap.1 hu
  exact oneN x u h
theorem oneLs (l : List Lk) : ∀ u ∈ l.flatMap lkC, u.oneCell' = true := by
  intro u hu
  obtain ⟨x, _, h⟩ := List.mem_flatMap.1 hu
  exact oneL x u h
theorem own_apart {w : World} {base size1 size2 n m c c2 : Nat} {e e2 : TypeId} {A A2 : Option Addr} {xs ys : List Value} (h : w.ownsRow base e size1 (.slice A n c) n xs) (h2 : w.ownsRow base e2 size2 (.slice A2 m c2) m ys) (he : e ≠ e2) : (Value.slice A n c).ownBlock = none ∨ (Value.slice A n c).ownBlock ≠ (Value.slice A2 m c2).ownBlock := by
  rcases own_cases h2 with ⟨rfl, _, _⟩ | ⟨g2, rfl, _⟩
  · rcases own_cases h with ⟨rfl, _, _⟩ | ⟨g, rfl, _⟩
    · exact .inl rfl
    · exact .inr (by simp [Value.ownBlock])
  · exact .inr (own_ne2 h h2 he)
theorem own_fresh {w : World} {base size n : Nat} {e : TypeId} {v : Value} {xs : List Value} (h : w.ownsRow base e size v n xs) : v.ownBlock ≠ some w.heap.size := fun e => Nat.lt_irrefl _ (h.lt _ e).2
set_option maxHeartbeats 3200000 in
theorem addD_any (A A2 : Option Addr) (n c m c2 base g : Nat) (k a b : Int) (x : Nat) (ns : List Nd) (ls : List Lk) (w : World) (hcb : CB w g (.slice A n c) (.slice A2 m c2) k a b x) (hn : w.ownsRow base 52 3 (.slice A n c) n (ns.flatMap ndC)) (hl : w.ownsRow base 54 4 (.slice A2 m c2) m (ls.flatMap lkC)) (hb : base ≤ w.heap.size) (hbg : base ≤ g) (hG : Good ns ls) (E : Int) (NS : List Nd) (hE : E = if idOk a = false then 70 else if hasN ns a = true then 72 else if 256 ≤ ns.length then 2 else 0) (hLS : NS = if E = 0 then addN ns a else ns) :
    Calls Try.prog 66 #[.pointer (some ⟨g, 0, none⟩)] w (DPost base g k a b x A A2 n c m c2 E NS ls w) := by
  have HCB := Lib.hid hcb
  have HN := Lib.hid hn
  have HL := Lib.hid hl
  have HB0 := Lib.hid hb
  have HGD := Lib.hid hG
  have hnl : ns.length = n := (GN.of_own hn).1
  have hml : ls.length = m := (GL.of_own hl).1
  have hn256 : n ≤ 256 := by rw [← hnl]; exact hG.n
  have hm4096 : m ≤ 4096 := by rw [← hml]; exact hG.l
  have HE := Lib.hid hE
  have HLS := Lib.hid hLS
  clear hE hLS
  have ND := Lib.hid (fun w' (h : Below w.heap.size w w') => node_any A A2 n c m c2 ns a w' (((GN.of_own hn).below h).more h.size) hG.Rise (by omega))
  obtain ⟨p0, f0⟩ := hcb.c0
  obtain ⟨p1, _⟩ := hcb.c1
  obtain ⟨p3, _⟩ := hcb.c3
  obtain ⟨p4, _⟩ := hcb.c4
  obtain ⟨p5, _⟩ := hcb.c5
  have hB := Below.refl w.heap.size w
  have hBd := hB.drew
  have HNE := Lib.hid (own_ne hn hcb (by decide))
  clear hcb hn hl hG
  go_enter Try.func66, Try.ntmps66
  go_wp2_with (fail)
  go_region_held3 (fun w' => w'.cell? ⟨g, 0, none⟩ = some (.slice A n c) ∧ w'.cell? ⟨g, 1, none⟩ = some (.slice A2 m c2) ∧ w'.cell? ⟨g, 3, none⟩ = some (.int .i64 a) ∧ w'.cell? ⟨g, 4, none⟩ = some (.int .i64 b) ∧ Below w.heap.size w w')
    (first | exact held_keep4 (by assumption) hb | go_keep)
    (first | (go_at_call 27; refine (ND.out _ (heldB4 (by assumption))).mono ?_; rintro z w' ⟨rfl, hb⟩))
  have H4 := Lib.hid (heldB4 (by assumption))
  have q0 := keep_cellG p0 H4.out
  have q3 := keep_cellG p3 H4.out
  clear hB hBd p0 p1 p3 p4 p5
  cases hid : idOk a
  · have eqv : 70 = E := Eq.symm (by rw [HE.out, hid]; rfl)
    subst eqv
    have eqv : ns = NS := Eq.symm (by rw [HLS.out, if_neg (by decide)])
    subst eqv
    go_wp2_with (first | (go_at_call 26; refine (checkid_bad hid _).mono ?_; rintro e w2 ⟨rfl, hww⟩; subst hww))
    all_goals
      go_ret
      exact dpost_same HCB.out HN.out HL.out HB0.out _ (by first | exact H4.out | exact below_drewN H4.out _ | exact below_drewN (below_drewN H4.out _) _ | exact (H4.out.drew))
  · cases hno : hasN ns a
    · by_cases hlen : 256 ≤ n
      · have eqv : 2 = E := Eq.symm (by rw [HE.out, hid, hno, hnl, if_neg (by decide), if_neg (by decide), if_pos hlen])
        subst eqv
        have eqv : ns = NS := Eq.symm (by rw [HLS.out, if_neg (by decide)])
        subst eqv
        have hcidx : (256 : Int) ≤ (n : Int) := by omega
        (try rw [hno])
        go_wp2_with (first | (go_at_call 26; refine (checkid_ok hid _).mono ?_; rintro e w2 ⟨rfl, hww⟩; subst hww))
        all_goals
          go_ret
          exact dpost_same HCB.out HN.out HL.out HB0.out _ (by first | exact H4.out | exact below_drewN H4.out _ | exact below_drewN (below_drewN H4.out _) _ | exact (H4.out.drew))
      · have eqv : 0 = E := Eq.symm (by rw [HE.out, hid, hno, hnl, if_neg (by decide), if_neg (by decide), if_neg hlen])
        subst eqv
        have eqv : addN ns a = NS := Eq.symm (by rw [HLS.out, if_pos rfl])
        subst eqv
        have hcidx : ¬ (256 : Int) ≤ (n : Int) := by omega
        (try rw [hno])
        have HCI := Lib.hid (show cntN ns a ≤ n by rw [← hnl]; exact List.countP_le_length)
        have HOQ := Lib.hid (own_drewN (own_below HN.out H4.out) 1)
        have HLQ := Lib.hid (own_drewN (own_below HL.out H4.out) 1)
        have HCQ := Lib.hid ((HCB.out.below H4.out HCB.out.lt).drewN 1)
        have HBQ := Lib.hid (below_drewN (H4.out.mono HB0.out) 1)
        have HLE := Lib.hid (Nat.le_trans HB0.out H4.out.size)
        have HQ0 := Lib.hid (fun q (hq : q < w.heap.size) => Nat.lt_of_lt_of_le hq H4.out.size)
        have HQL := Lib.hid (fun q (hq : q < w.heap.size) o => Nat.lt_of_lt_of_le (Nat.lt_of_lt_of_le hq H4.out.size) ((Below.refl _ _).alloc (Nat.le_refl _) o).size)
        have HID := Lib.hid hid
        go_wp2_with (first | (go_at_call 26; refine (checkid_ok HID.out _).mono ?_; rintro e w2 ⟨rfl, hww⟩; subst hww))
        have pa0 := fun o => alloc_keep q0 o
        have pa3 := fun o => alloc_keep q3 o
        go_region_law (first | (go_simp; go_at_call 87; refine (ins_N A n c base _ 1 (cntN ns a) (ns.flatMap ndC) (ndC ⟨a, true, false⟩) _ (World.ownsRow.alloc HOQ.out _) rfl 52 (Go.heap_alloc_new _ _) (oneN _) (oneNs ns) (own_fresh HOQ.out) HCI.out (by omega) (by have := HLE.out; simp; omega)).mono ?_; rintro e w5 ⟨A', c', rfl, ho5, hg5⟩; have hc5 := (HCQ.out.alloc _).grown hg5 HNE.out; have z0 := hc5.c0.1; have z1 := hc5.c0.2; have HC5 := Lib.hid hc5; have HO5 := Lib.hid ho5; have HL5 := Lib.hid ((World.ownsRow.alloc HLQ.out _).kept hg5 (own_apart HLQ.out HOQ.out (by decide))); have HK5 : Hid (∀ q, q < w.heap.size → q ≠ g → some q ≠ (Value.slice A n c).ownBlock → w5.heap[q]? = w.heap[q]?) := Lib.hid (fun q hq _ hr => (hg5.block q (HQL.out q hq _) hr).trans ((Go.heap_alloc_old _ _ (HQ0.out q hq)).trans (H4.out.block q hq))); have HB5 := Lib.hid ((HBQ.out.alloc HLE.out _).grown hg5 (by have := HLE.out; simp; omega) (fun k hk => (HN.out.lt k hk).1)); clear ho5 hg5 hc5))
        all_goals
          go_wp2_with (fail)
          go_ret
          exact ⟨A', n + 1, c', A2, m, c2, rfl, HC5.out.s0 _, own_set2 (by rw [flat_ins ndC 3 (fun _ => rfl)] at HO5; exact HO5.out) (own_ne HO5.out HC5.out (by decide)), own_set2 HL5.out (own_ne HL5.out HC5.out (by decide)), HB5.out.setCell (p := ⟨g, 0, none⟩) hbg _, fun q hq hqg hqr _ => (Go.heap_setCell_other w5 ⟨g, 0, none⟩ q _ hqg).trans (HK5.out q hq hqg hqr), fun h => absurd rfl h⟩
    · have eqv : 72 = E := Eq.symm (by rw [HE.out, hid, hno, if_neg (by decide), if_pos rfl])
      subst eqv
      have eqv : ns = NS := Eq.symm (by rw [HLS.out, if_neg (by decide)])
      subst eqv
      (try rw [hno])
      go_wp2_with (first | (go_at_call 26; refine (checkid_ok hid _).mono ?_; rintro e w2 ⟨rfl, hww⟩; subst hww))
      all_goals
        go_ret
        exact dpost_same HCB.out HN.out HL.out HB0.out _ (by first | exact H4.out | exact below_drewN H4.out _ | exact below_drewN (below_drewN H4.out _) _ | exact (H4.out.drew))
set_option maxHeartbeats 3200000 in
theorem linkD_any (A A2 : Option Addr) (n c m c2 base g : Nat) (k a b : Int) (x : Nat) (ns : List Nd) (ls : List Lk) (w : World) (hcb : CB w g (.slice A n c) (.slice A2 m c2) k a b x) (hn : w.ownsRow base 52 3 (.slice A n c) n (ns.flatMap ndC)) (hl : w.ownsRow base 54 4 (.slice A2 m c2) m (ls.flatMap lkC)) (hb : base ≤ w.heap.size) (hbg : base ≤ g) (hG : Good ns ls) (hx64 : x < 18446744073709551616) (E : Int) (LS : List Lk) (hE : E = if hasN ns a = false then 70 else if hasN ns b = false then 70 else if a = b then 71 else if hasL ls (lkT a b) = true then 72 else if withinI x 4697254411347427328 = 0 then (if 4096 ≤ ls.length then 2 else 0) else withinI x 4697254411347427328) (hLS : LS = if E = 0 then addL ls ⟨mnI a b, mxI a b, x, true⟩ else ls) :
    Calls Try.prog 67 #[.pointer (some ⟨g, 0, none⟩)] w (DPost base g k a b x A A2 n c m c2 E ns LS w) := by
  have HCB := Lib.hid hcb
  have HN := Lib.hid hn
  have HL := Lib.hid hl
  have HB0 := Lib.hid hb
  have HGD := Lib.hid hG
  have hnl : ns.length = n := (GN.of_own hn).1
  have hml : ls.length = m := (GL.of_own hl).1
  have hn256 : n ≤ 256 := by rw [← hnl]; exact hG.n
  have hm4096 : m ≤ 4096 := by rw [← hml]; exact hG.l
  have HE := Lib.hid hE
  have HLS := Lib.hid hLS
  clear hE hLS
  have ND := Lib.hid (fun w' (h : Below w.heap.size w w') => node_any A A2 n c m c2 ns a w' (((GN.of_own hn).below h).more h.size) hG.Rise (by omega))
  have NDB := Lib.hid (fun w' (h : Below w.heap.size w w') => node_any A A2 n c m c2 ns b w' (((GN.of_own hn).below h).more h.size) hG.Rise (by omega))
  have LNK := Lib.hid (fun w' (h : Below w.heap.size w w') => link_any A A2 n c m c2 ls a b w' (((GL.of_own hl).below h).more h.size) hG.RiseL (by omega))
  have WEI := Lib.hid (fun W => weight_any x hx64 W)
  obtain ⟨p0, f0⟩ := hcb.c0
  obtain ⟨p1, _⟩ := hcb.c1
  obtain ⟨p3, _⟩ := hcb.c3
  obtain ⟨p4, _⟩ := hcb.c4
  obtain ⟨p5, _⟩ := hcb.c5
  have hB := Below.refl w.heap.size w
  have hBd := hB.drew
  have HNE := Lib.hid (own_ne hl hcb (by decide))
  clear hcb hn hl hG hx64
  go_enter Try.func67, Try.ntmps67
  go_wp2_with (fail)
  go_region_held3 (fun w' => w'.cell? ⟨g, 0, none⟩ = some (.slice A n c) ∧ w'.cell? ⟨g, 1, none⟩ = some (.slice A2 m c2) ∧ w'.cell? ⟨g, 3, none⟩ = some (.int .i64 a) ∧ w'.cell? ⟨g, 4, none⟩ = some (.int .i64 b) ∧ Below w.heap.size w w')
    (first | exact held_keep4 (by assumption) hb | go_keep)
    (first | (go_at_call 27; refine (ND.out _ (heldB4 (by assumption))).mono ?_; rintro z w' ⟨rfl, hb⟩))
  have h4 := heldB4 (by assumption)
  have q0 := keep_cellG p0 h4
  have q1 := keep_cellG p1 h4
  have q3 := keep_cellG p3 h4
  have q4 := keep_cellG p4 h4
  clear hB hBd
  have hBd := h4.drew
  go_wp2_with (fail)
  go_region_held3 (fun w' => w'.cell? ⟨g, 0, none⟩ = some (.slice A n c) ∧ w'.cell? ⟨g, 1, none⟩ = some (.slice A2 m c2) ∧ w'.cell? ⟨g, 3, none⟩ = some (.int .i64 a) ∧ w'.cell? ⟨g, 4, none⟩ = some (.int .i64 b) ∧ Below w.heap.size w w')
    (first | exact held_keep4 (by assumption) hb | go_keep)
    (first | (go_at_call 27; refine (NDB.out _ (heldB4 (by assumption))).mono ?_; rintro z w' ⟨rfl, hb⟩))
  have h5 := heldB4 (by assumption)
  have r0 := keep_cellG p0 h5
  have r1 := keep_cellG p1 h5
  have r3 := keep_cellG p3 h5
  have r4 := keep_cellG p4 h5
  clear q0 q1 q3 q4 h4 hBd
  have hBd := h5.drew
  go_wp2_with (fail)
  go_region_held3 (fun w' => w'.cell? ⟨g, 0, none⟩ = some (.slice A n c) ∧ w'.cell? ⟨g, 1, none⟩ = some (.slice A2 m c2) ∧ w'.cell? ⟨g, 3, none⟩ = some (.int .i64 a) ∧ w'.cell? ⟨g, 4, none⟩ = some (.int .i64 b) ∧ Below w.heap.size w w')
    (first | exact held_keep4 (by assumption) hb | go_keep)
    (first | (go_at_call 88; refine (LNK.out _ (heldB4 (by assumption))).mono ?_; rintro z w' ⟨rfl, hb⟩))
  have H4 := Lib.hid (heldB4 (by assumption))
  have t0 := keep_cellG p0 H4.out
  have t1 := keep_cellG p1 H4.out
  have t3 := keep_cellG p3 H4.out
  have t4 := keep_cellG p4 H4.out
  have t5 := keep_cellG p5 H4.out
  clear r0 r1 r3 r4 h5 hBd p0 p1 p3 p4 p5
  obtain ⟨i, hi⟩ : ∃ i, i = cntL ls (lkT a b) := ⟨_, rfl⟩
  rw [← hi]
  have HI := Lib.hid hi
  clear hi
  generalize cntN ns a = na at *
  generalize cntN ns b = nb at *
  cases hA : hasN ns a
  · have eqv : 70 = E := Eq.symm (by rw [HE.out, hA]; rfl)
    subst eqv
    have eqv : ls = LS := Eq.symm (by rw [HLS.out, if_neg (by decide)])
    subst eqv
    go_wp2_with (fail)
    (try go_big_quiet (fail))
    (try go_wp2_with (fail))
    all_goals
      go_ret
      exact dpost_same HCB.out HN.out HL.out HB0.out _ (by first | exact H4.out | exact below_drewN H4.out _ | exact below_drewN (below_drewN H4.out _) _ | exact (H4.out.drew))
  cases hBB : hasN ns b
  · have eqv : 70 = E := Eq.symm (by rw [HE.out, hA, hBB]; rfl)
    subst eqv
    have eqv : ls = LS := Eq.symm (by rw [HLS.out, if_neg (by decide)])
    subst eqv
    go_wp2_with (fail)
    (try go_big_quiet (fail))
    (try go_wp2_with (fail))
    all_goals
      go_ret
      exact dpost_same HCB.out HN.out HL.out HB0.out _ (by first | exact H4.out | exact below_drewN H4.out _ | exact below_drewN (below_drewN H4.out _) _ | exact (H4.out.drew))
  by_cases hab : a = b
  · have eqv : 71 = E := Eq.symm (by rw [HE.out, hA, hBB, if_neg (by decide), if_neg (by decide), if_pos hab])
    subst eqv
    have eqv : ls = LS := Eq.symm (by rw [HLS.out, if_neg (by decide)])
    subst eqv
    subst hab
    go_wp2_with (fail)
    (try go_big_quiet (fail))
    (try go_wp2_with (fail))
    all_goals
      go_ret
      exact dpost_same HCB.out HN.out HL.out HB0.out _ (by first | exact H4.out | exact below_drewN H4.out _ | exact below_drewN (below_drewN H4.out _) _ | exact (H4.out.drew))
  have habb : (a == b) = false := by rw [beq_eq_false_iff_ne]; exact hab
  cases hLL : hasL ls (lkT a b)
  rotate_left
  · have eqv : 72 = E := Eq.symm (by rw [HE.out, hA, hBB, hLL, if_neg (by decide), if_neg (by decide), if_neg hab, if_pos rfl])
    subst eqv
    have eqv : ls = LS := Eq.symm (by rw [HLS.out, if_neg (by decide)])
    subst eqv
    go_wp2_with (fail)
    (try go_big_quiet (fail))
    (try go_wp2_with (fail))
    all_goals
      go_ret
      exact dpost_same HCB.out HN.out HL.out HB0.out _ (by first | exact H4.out | exact below_drewN H4.out _ | exact below_drewN (below_drewN H4.out _) _ | exact (H4.out.drew))
  by_cases hz : withinI x 4697254411347427328 = 0
  rotate_left
  · obtain ⟨R, hR⟩ : ∃ R, R = withinI x 4697254411347427328 := ⟨_, rfl⟩
    rw [← hR] at WEI HE hz
    clear hR
    have eqv : R = E := Eq.symm (by rw [HE.out, hA, hBB, hLL, if_neg (by decide), if_neg (by decide), if_neg hab, if_neg (by decide), if_neg hz])
    subst eqv
    have eqv : ls = LS := Eq.symm (by rw [HLS.out, if_neg hz])
    subst eqv
    go_wp2_with (fail)
    go_big_quiet (fail)
    go_wp2_with (go_at_call 29; refine (WEI.out _).mono ?_; rintro e w2 ⟨rfl, hww⟩; subst hww)
    all_goals
      go_ret
      exact dpost_same HCB.out HN.out HL.out HB0.out _ (by first | exact H4.out | exact below_drewN H4.out _ | exact below_drewN (below_drewN H4.out _) _ | exact (H4.out.drew))
  by_cases hlen : 4096 ≤ m
  · have eqv : 2 = E := Eq.symm (by rw [HE.out, hA, hBB, hLL, hml, if_neg (by decide), if_neg (by decide), if_neg hab, if_neg (by decide), if_pos hz, if_pos hlen])
    subst eqv
    have eqv : ls = LS := Eq.symm (by rw [HLS.out, if_neg (by decide)])
    subst eqv
    have hcidx : (4096 : Int) ≤ (m : Int) := by omega
    rw [hz] at WEI
    go_wp2_with (fail)
    go_big_quiet (fail)
    go_wp2_with (go_at_call 29; refine (WEI.out _).mono ?_; rintro e w2 ⟨rfl, hww⟩; subst hww)
    all_goals
      go_ret
      exact dpost_same HCB.out HN.out HL.out HB0.out _ (by first | exact H4.out | exact below_drewN H4.out _ | exact below_drewN (below_drewN H4.out _) _ | exact (H4.out.drew))
  have eqv : 0 = E := Eq.symm (by rw [HE.out, hA, hBB, hLL, hml, if_neg (by decide), if_neg (by decide), if_neg hab, if_neg (by decide), if_pos hz, if_neg hlen])
  subst eqv
  have eqv : addL ls ⟨mnI a b, mxI a b, x, true⟩ = LS := Eq.symm (by rw [HLS.out, if_pos rfl])
  subst eqv
  have hcidx : ¬ (4096 : Int) ≤ (m : Int) := by omega
  have HCI := Lib.hid (show i ≤ m by rw [HI.out, ← hml]; exact List.countP_le_length)
  have HCL : Hid (cntL ls ⟨mnI a b, mxI a b, x, true⟩ = i) := Lib.hid HI.out.symm
  obtain ⟨mn, hmn0⟩ : ∃ mn, mn = mnI a b := ⟨_, rfl⟩
  obtain ⟨mx, hmx0⟩ : ∃ mx, mx = mxI a b := ⟨_, rfl⟩
  rw [← hmn0, ← hmx0] at HCL
  have hmn : (if b < a then b else a) = mn := hmn0.symm
  have hmx : (if a < b then b else a) = mx := hmx0.symm
  have HMM := Lib.hid (And.intro hmn0 hmx0)
  clear hmn0 hmx0
  rw [hz] at WEI
  go_wp2_with (fail)
  go_big_quiet (fail)
  have HB6 := Lib.hid H4.out
  go_wp2_with (go_at_call 29; refine (WEI.out _).mono ?_; rintro e w2 ⟨rfl, hww⟩; subst hww)
  obtain ⟨w6, hw6⟩ : ∃ x, x = w'.drewN nq := ⟨_, rfl⟩
  rw [← hw6]
  have HO6 := Lib.hid (show w6.drew.ownsRow base 52 3 (.slice A n c) n (ns.flatMap ndC) by rw [hw6]; exact own_drewN (own_below HN.out HB6.out) (nq + 1))
  have HL6 := Lib.hid (show w6.drew.ownsRow base 54 4 (.slice A2 m c2) m (ls.flatMap lkC) by rw [hw6]; exact own_drewN (own_below HL.out HB6.out) (nq + 1))
  have HC6 := Lib.hid (show CB w6.drew g (.slice A n c) (.slice A2 m c2) k a b x by rw [hw6]; exact (HCB.out.below HB6.out HCB.out.lt).drewN (nq + 1))
  have HW6 := Lib.hid (show Below w.heap.size w w6.drew by rw [hw6]; exact below_drewN HB6.out (nq + 1))
  have s0 : w6.cell? ⟨g, 0, none⟩ = some (.slice A n c) := by rw [hw6]; exact t0
  have s1 : w6.cell? ⟨g, 1, none⟩ = some (.slice A2 m c2) := by rw [hw6]; exact t1
  have s3 : w6.cell? ⟨g, 3, none⟩ = some (.int .i64 a) := by rw [hw6]; exact t3
  have s4 : w6.cell? ⟨g, 4, none⟩ = some (.int .i64 b) := by rw [hw6]; exact t4
  have s5 : w6.cell? ⟨g, 5, none⟩ = some (.float .f64 x) := by rw [hw6]; exact t5
  have hsz : w6.drew.heap.size = w6.heap.size := rfl
  have HLE := Lib.hid (Nat.le_trans HB0.out HW6.out.size)
  clear t0 t1 t3 t4 t5 hw6 f0
  have x1 := fun o => alloc_keep s1 o
  have x3 := fun o => alloc_keep s3 o
  have x4 := fun o => alloc_keep s4 o
  have x5 := fun o => alloc_keep s5 o
  have hB6 := HW6.out
  refine wp_region_K (S := (fun w' => w'.cell? ⟨g, 1, none⟩ = some (.slice A2 m c2) ∧ w'.cell? ⟨g, 3, none⟩ = some (.int .i64 a) ∧ w'.cell? ⟨g, 4, none⟩ = some (.int .i64 b) ∧ w'.cell? ⟨g, 5, none⟩ = some (.float .f64 x))) (by kernel_rfl) 40 ?_
  have hS : (fun w' => w'.cell? ⟨g, 1, none⟩ = some (.slice A2 m c2) ∧ w'.cell? ⟨g, 3, none⟩ = some (.int .i64 a) ∧ w'.cell? ⟨g, 4, none⟩ = some (.int .i64 b) ∧ w'.cell? ⟨g, 5, none⟩ = some (.float .f64 x)) w6.drew := ⟨s1, s3, s4, s5⟩
  refine wpAnyK_take (i := 0) (v := ?_) rfl (by kernel_rfl) (by kernel_rfl) (by kernel_rfl) (by decide) (by kernel_rfl) (fun _ _ _ h => h) (Or.inl ⟨by rfl, ?_⟩) hS ?_
  rotate_left
  · intro w hSw
    (try dsimp only at hSw)
    go_simp
    with_reducible rfl
  (try simp only [Act.put, List.setIfInBounds_toArray, List.set_cons_zero, List.set_cons_succ])
  refine wpAnyK_take (i := 1) (v := ?_) rfl (by kernel_rfl) (by kernel_rfl) (by kernel_rfl) (by decide) (by kernel_rfl) (fun _ _ _ h => h) (Or.inl ⟨by rfl, ?_⟩) hS ?_
  rotate_left
  · intro w hSw
    (try dsimp only at hSw)
    go_simp
    with_reducible rfl
  (try simp only [Act.put, List.setIfInBounds_toArray, List.set_cons_zero, List.set_cons_succ])
  refine wpAnyK_take (i := 2) (v := ?_) rfl (by kernel_rfl) (by kernel_rfl) (by kernel_rfl) (by decide) (by kernel_rfl) (fun _ _ _ h => h) (Or.inl ⟨by rfl, ?_⟩) hS ?_
  rotate_left
  · intro w hSw
    (try dsimp only at hSw)
    go_simp
    with_reducible rfl
  (try simp only [Act.put, List.setIfInBounds_toArray, List.set_cons_zero, List.set_cons_succ])
  refine wpAnyK_take (i := 3) (v := ?_) rfl (by kernel_rfl) (by kernel_rfl) (by kernel_rfl) (by decide) (by kernel_rfl) (fun _ _ _ h => h) (Or.inl ⟨by rfl, ?_⟩) hS ?_
  rotate_left
  · intro w hSw
    (try dsimp only at hSw)
    go_simp
    with_reducible rfl
  (try simp only [Act.put, List.setIfInBounds_toArray, List.set_cons_zero, List.set_cons_succ])
  refine wpAnyK_take (i := 4) (v := ?_) rfl (by kernel_rfl) (by kernel_rfl) (by kernel_rfl) (by decide) (by kernel_rfl) (fun _ _ _ h => h) (Or.inl ⟨by rfl, ?_⟩) hS ?_
  rotate_left
  · intro w hSw
    (try dsimp only at hSw)
    go_simp
    with_reducible rfl
  (try simp only [Act.put, List.setIfInBounds_toArray, List.set_cons_zero, List.set_cons_succ])
  refine wpAnyK_take (i := 5) (v := ?_) rfl (by kernel_rfl) (by kernel_rfl) (by kernel_rfl) (by decide) (by kernel_rfl) (fun _ _ _ h => h) (Or.inl ⟨by rfl, ?_⟩) hS ?_
  rotate_left
  · intro w hSw
    (try dsimp only at hSw)
    go_simp
    with_reducible rfl
  (try simp only [Act.put, List.setIfInBounds_toArray, List.set_cons_zero, List.set_cons_succ])
  refine wpAnyK_take (i := 6) (v := ?_) rfl (by kernel_rfl) (by kernel_rfl) (by kernel_rfl) (by decide) (by kernel_rfl) (fun _ _ _ h => h) (Or.inl ⟨by rfl, ?_⟩) hS ?_
  rotate_left
  · intro w hSw
    (try dsimp only at hSw)
    go_simp
    with_reducible rfl
  (try simp only [Act.put, List.setIfInBounds_toArray, List.set_cons_zero, List.set_cons_succ])
  refine wpAnyK_take (i := 7) (v := ?_) rfl (by kernel_rfl) (by kernel_rfl) (by kernel_rfl) (by decide) (by kernel_rfl) (fun _ _ _ h => h) (Or.inl ⟨by rfl, ?_⟩) hS ?_
  rotate_left
  · intro w hSw
    (try dsimp only at hSw)
    go_simp
    with_reducible rfl
  (try simp only [Act.put, List.setIfInBounds_toArray, List.set_cons_zero, List.set_cons_succ])
  refine wpAnyK_take (i := 8) (v := ?_) rfl (by kernel_rfl) (by kernel_rfl) (by kernel_rfl) (by decide) (by kernel_rfl) (fun _ _ _ h => h) (Or.inl ⟨by rfl, ?_⟩) hS ?_
  rotate_left
  · intro w hSw
    (try dsimp only at hSw)
    go_simp
    with_reducible rfl
  (try simp only [Act.put, List.setIfInBounds_toArray, List.set_cons_zero, List.set_cons_succ])
  refine wpAnyK_take (i := 9) (v := ?_) rfl (by kernel_rfl) (by kernel_rfl) (by kernel_rfl) (by decide) (by kernel_rfl) (fun _ _ _ h => h) (Or.inl ⟨by rfl, ?_⟩) hS ?_
  rotate_left
  · intro w hSw
    (try dsimp only at hSw)
    go_simp
    with_reducible rfl
  (try simp only [Act.put, List.setIfInBounds_toArray, List.set_cons_zero, List.set_cons_succ])
  refine wpAnyK_take (i := 10) (v := ?_) rfl (by kernel_rfl) (by kernel_rfl) (by kernel_rfl) (by decide) (by kernel_rfl) (fun _ _ _ h => h) (Or.inl ⟨by rfl, ?_⟩) hS ?_
  rotate_left
  · intro w hSw
    (try dsimp only at hSw)
    go_simp
    with_reducible rfl
  (try simp only [Act.put, List.setIfInBounds_toArray, List.set_cons_zero, List.set_cons_succ])
  refine wpAnyK_take (i := 11) (v := ?_) rfl (by kernel_rfl) (by kernel_rfl) (by kernel_rfl) (by decide) (by kernel_rfl) (fun _ _ _ h => h) (Or.inl ⟨by rfl, ?_⟩) hS ?_
  rotate_left
  · intro w hSw
    (try dsimp only at hSw)
    go_simp
    with_reducible rfl
  (try simp only [Act.put, List.setIfInBounds_toArray, List.set_cons_zero, List.set_cons_succ])
  refine wpAnyK_take (i := 12) (v := ?_) rfl (by kernel_rfl) (by kernel_rfl) (by kernel_rfl) (by decide) (by kernel_rfl) (fun _ _ _ h => h) (Or.inl ⟨by rfl, ?_⟩) hS ?_
  rotate_left
  · intro w hSw
    (try dsimp only at hSw)
    go_simp
    with_reducible rfl
  (try simp only [Act.put, List.setIfInBounds_toArray, List.set_cons_zero, List.set_cons_succ])
  refine wpAnyK_take (i := 13) (v := ?_) rfl (by kernel_rfl) (by kernel_rfl) (by kernel_rfl) (by decide) (by kernel_rfl) (fun _ _ _ h => h) (Or.inl ⟨by rfl, ?_⟩) hS ?_
  rotate_left
  · intro w hSw
    (try dsimp only at hSw)
    go_simp
    with_reducible rfl
  (try simp only [Act.put, List.setIfInBounds_toArray, List.set_cons_zero, List.set_cons_succ])
  refine wpAnyK_take (i := 14) (v := ?_) rfl (by kernel_rfl) (by kernel_rfl) (by kernel_rfl) (by decide) (by kernel_rfl) (fun _ _ _ h => h) (Or.inl ⟨by rfl, ?_⟩) hS ?_
  rotate_left
  · intro w hSw
    (try dsimp only at hSw)
    go_simp
    with_reducible rfl
  (try simp only [Act.put, List.setIfInBounds_toArray, List.set_cons_zero, List.set_cons_succ])
  refine wpAnyK_take (i := 15) (v := ?_) rfl (by kernel_rfl) (by kernel_rfl) (by kernel_rfl) (by decide) (by kernel_rfl) (fun _ _ _ h => h) (Or.inl ⟨by rfl, ?_⟩) hS ?_
  rotate_left
  · intro w hSw
    (try dsimp only at hSw)
    go_simp
    with_reducible rfl
  (try simp only [Act.put, List.setIfInBounds_toArray, List.set_cons_zero, List.set_cons_succ])
  refine wpAnyK_take (i := 16) (v := ?_) rfl (by kernel_rfl) (by kernel_rfl) (by kernel_rfl) (by decide) (by kernel_rfl) (fun _ _ _ h => h) (Or.inl ⟨by rfl, ?_⟩) hS ?_
  rotate_left
  · intro w hSw
    (try dsimp only at hSw)
    go_simp
    with_reducible rfl
  (try simp only [Act.put, List.setIfInBounds_toArray, List.set_cons_zero, List.set_cons_succ])
  refine wpAnyK_take (i := 17) (v := ?_) rfl (by kernel_rfl) (by kernel_rfl) (by kernel_rfl) (by decide) (by kernel_rfl) (fun _ _ _ h => h) (Or.inl ⟨by rfl, ?_⟩) hS ?_
  rotate_left
  · intro w hSw
    (try dsimp only at hSw)
    go_simp
    with_reducible rfl
  (try simp only [Act.put, List.setIfInBounds_toArray, List.set_cons_zero, List.set_cons_succ])
  refine wpAnyK_take (i := 18) (v := ?_) rfl (by kernel_rfl) (by kernel_rfl) (by kernel_rfl) (by decide) (by kernel_rfl) (fun _ _ _ h => h) (Or.inl ⟨by rfl, ?_⟩) hS ?_
  rotate_left
  · intro w hSw
    (try dsimp only at hSw)
    go_simp
    with_reducible rfl
  (try simp only [Act.put, List.setIfInBounds_toArray, List.set_cons_zero, List.set_cons_succ])
  refine wpAnyK_take (i := 19) (v := ?_) rfl (by kernel_rfl) (by kernel_rfl) (by kernel_rfl) (by decide) (by kernel_rfl) (fun _ _ _ h => h) (Or.inl ⟨by rfl, ?_⟩) hS ?_
  rotate_left
  · intro w hSw
    (try dsimp only at hSw)
    go_simp
    with_reducible rfl
  (try simp only [Act.put, List.setIfInBounds_toArray, List.set_cons_zero, List.set_cons_succ])
  refine wpAnyK_take (i := 20) (v := ?_) rfl (by kernel_rfl) (by kernel_rfl) (by kernel_rfl) (by decide) (by kernel_rfl) (fun _ _ _ h => h) (Or.inl ⟨by rfl, ?_⟩) hS ?_
  rotate_left
  · intro w hSw
    (try dsimp only at hSw)
    go_simp
    with_reducible rfl
  (try simp only [Act.put, List.setIfInBounds_toArray, List.set_cons_zero, List.set_cons_succ])
  refine wpAnyK_take (i := 21) (v := ?_) rfl (by kernel_rfl) (by kernel_rfl) (by kernel_rfl) (by decide) (by kernel_rfl) (fun _ _ _ h => h) (Or.inl ⟨by rfl, ?_⟩) hS ?_
  rotate_left
  · intro w hSw
    (try dsimp only at hSw)
    go_simp
    with_reducible rfl
  (try simp only [Act.put, List.setIfInBounds_toArray, List.set_cons_zero, List.set_cons_succ])
  refine wpAnyK_take (i := 22) (v := ?_) rfl (by kernel_rfl) (by kernel_rfl) (by kernel_rfl) (by decide) (by kernel_rfl) (fun _ _ _ h => h) (Or.inl ⟨by rfl, ?_⟩) hS ?_
  rotate_left
  · intro w hSw
    (try dsimp only at hSw)
    go_simp
    with_reducible rfl
  (try simp only [Act.put, List.setIfInBounds_toArray, List.set_cons_zero, List.set_cons_succ])
  refine wpAnyK_take (i := 23) (v := ?_) rfl (by kernel_rfl) (by kernel_rfl) (by kernel_rfl) (by decide) (by kernel_rfl) (fun _ _ _ h => h) (Or.inl ⟨by rfl, ?_⟩) hS ?_
  rotate_left
  · intro w hSw
    (try dsimp only at hSw)
    go_simp
    with_reducible rfl
  (try simp only [Act.put, List.setIfInBounds_toArray, List.set_cons_zero, List.set_cons_succ])
  refine wpAnyK_take (i := 24) (v := ?_) rfl (by kernel_rfl) (by kernel_rfl) (by kernel_rfl) (by decide) (by kernel_rfl) (fun _ _ _ h => h) (Or.inl ⟨by rfl, ?_⟩) hS ?_
  rotate_left
  · intro w hSw
    (try dsimp only at hSw)
    go_simp
    with_reducible rfl
  (try simp only [Act.put, List.setIfInBounds_toArray, List.set_cons_zero, List.set_cons_succ])
  refine wpAnyK_take (i := 25) (v := ?_) rfl (by kernel_rfl) (by kernel_rfl) (by kernel_rfl) (by decide) (by kernel_rfl) (fun _ _ _ h => h) (Or.inl ⟨by rfl, ?_⟩) hS ?_
  rotate_left
  · intro w hSw
    (try dsimp only at hSw)
    go_simp
    with_reducible rfl
  (try simp only [Act.put, List.setIfInBounds_toArray, List.set_cons_zero, List.set_cons_succ])
  refine wpAnyK_take (i := 26) (v := ?_) rfl (by kernel_rfl) (by kernel_rfl) (by kernel_rfl) (by decide) (by kernel_rfl) (fun _ _ _ h => h) (Or.inl ⟨by rfl, ?_⟩) hS ?_
  rotate_left
  · intro w hSw
    (try dsimp only at hSw)
    go_simp
    with_reducible rfl
  (try simp only [Act.put, List.setIfInBounds_toArray, List.set_cons_zero, List.set_cons_succ])
  refine wpAnyK_take (i := 27) (v := ?_) rfl (by kernel_rfl) (by kernel_rfl) (by kernel_rfl) (by decide) (by kernel_rfl) (fun _ _ _ h => h) (Or.inl ⟨by rfl, ?_⟩) hS ?_
  rotate_left
  · intro w hSw
    (try dsimp only at hSw)
    go_simp
    with_reducible rfl
  (try simp only [Act.put, List.setIfInBounds_toArray, List.set_cons_zero, List.set_cons_succ])
  refine wpAnyK_take (i := 28) (v := ?_) rfl (by kernel_rfl) (by kernel_rfl) (by kernel_rfl) (by decide) (by kernel_rfl) (fun _ _ _ h => h) (Or.inl ⟨by rfl, ?_⟩) hS ?_
  rotate_left
  · intro w hSw
    (try dsimp only at hSw)
    go_simp
    with_reducible rfl
  (try simp only [Act.put, List.setIfInBounds_toArray, List.set_cons_zero, List.set_cons_succ])
  refine wpAnyK_take (i := 29) (v := ?_) rfl (by kernel_rfl) (by kernel_rfl) (by kernel_rfl) (by decide) (by kernel_rfl) (fun _ _ _ h => h) (Or.inl ⟨by rfl, ?_⟩) hS ?_
  rotate_left
  · intro w hSw
    (try dsimp only at hSw)
    go_simp
    with_reducible rfl
  (try simp only [Act.put, List.setIfInBounds_toArray, List.set_cons_zero, List.set_cons_succ])
  refine wpAnyK_take (i := 30) (v := ?_) rfl (by kernel_rfl) (by kernel_rfl) (by kernel_rfl) (by decide) (by kernel_rfl) (fun _ _ _ h => h) (Or.inl ⟨by rfl, ?_⟩) hS ?_
  rotate_left
  · intro w hSw
    (try dsimp only at hSw)
    go_simp
    with_reducible rfl
  (try simp only [Act.put, List.setIfInBounds_toArray, List.set_cons_zero, List.set_cons_succ])
  refine wpAnyK_take (i := 31) (v := ?_) rfl (by kernel_rfl) (by kernel_rfl) (by kernel_rfl) (by decide) (by kernel_rfl) (fun _ _ _ h => h) (Or.inl ⟨by rfl, ?_⟩) hS ?_
  rotate_left
  · intro w hSw
    (try dsimp only at hSw)
    go_simp
    with_reducible rfl
  (try simp only [Act.put, List.setIfInBounds_toArray, List.set_cons_zero, List.set_cons_succ])
  refine wpAnyK_take (i := 32) (v := ?_) rfl (by kernel_rfl) (by kernel_rfl) (by kernel_rfl) (by decide) (by kernel_rfl) (fun _ _ _ h => h) (Or.inl ⟨by rfl, ?_⟩) hS ?_
  rotate_left
  · intro w hSw
    (try dsimp only at hSw)
    go_simp
    with_reducible rfl
  (try simp only [Act.put, List.setIfInBounds_toArray, List.set_cons_zero, List.set_cons_succ])
  refine wpAnyK_take (i := 33) (v := ?_) rfl (by kernel_rfl) (by kernel_rfl) (by kernel_rfl) (by decide) (by kernel_rfl) (fun _ _ _ h => h) (Or.inl ⟨by rfl, ?_⟩) hS ?_
  rotate_left
  · intro w hSw
    (try dsimp only at hSw)
    go_simp
    with_reducible rfl
  (try simp only [Act.put, List.setIfInBounds_toArray, List.set_cons_zero, List.set_cons_succ])
  refine wpAnyK_take (i := 34) (v := ?_) rfl (by kernel_rfl) (by kernel_rfl) (by kernel_rfl) (by decide) (by kernel_rfl) (fun _ _ _ h => h) (Or.inl ⟨by rfl, ?_⟩) hS ?_
  rotate_left
  · intro w hSw
    (try dsimp only at hSw)
    go_simp
    with_reducible rfl
  (try simp only [Act.put, List.setIfInBounds_toArray, List.set_cons_zero, List.set_cons_succ])
  refine wpAnyK_step (i := 35) rfl (by kernel_rfl) rfl (fun K hK => ?_)
  go_simp
  refine hK.out _ _ ⟨x1 _, x3 _, x4 _, x5 _⟩ (fun hS => ?_)
  clear hK K
  (try simp only [Act.put, List.setIfInBounds_toArray, List.set_cons_zero, List.set_cons_succ])
  refine wpAnyK_step (i := 36) rfl (by kernel_rfl) rfl (fun K hK => ?_)
  go_simp
  (go_at_call 89; refine (ins_L A2 m c2 base _ 1 i (ls.flatMap lkC) (lkC ⟨mn, mx, x, true⟩) _ (World.ownsRow.alloc HL6.out _) rfl 54 (Go.heap_alloc_new _ _) (oneL _) (oneLs ls) (own_fresh HL6.out) HCI.out (by omega) (by have := HLE.out; simp; omega)).mono ?_; rintro e w7 ⟨A', c', rfl, ho7, hg7⟩; have hc7 := (HC6.out.alloc _).grown hg7 HNE.out; have z0 := hc7.c1.1; have z1 := hc7.c1.2; have HC7 := Lib.hid hc7; have HO7 := Lib.hid ho7; have HN7 := Lib.hid ((World.ownsRow.alloc HO6.out _).kept hg7 (own_apart HO6.out HL6.out (by decide))); have HB7 := Lib.hid (((HW6.out.mono HB0.out).alloc HLE.out _).grown hg7 (by have := HLE.out; simp; omega) (fun k hk => (HL.out.lt k hk).1)); have HG7 := Lib.hid hg7; clear ho7 hc7)
  (try go_wp2_with (fail))
  refine hK.out _ _ ⟨HC7.out.c1.1, HC7.out.c3.1, HC7.out.c4.1, HC7.out.c5.1⟩ (fun hS => ?_)
  clear hK K
  (try simp only [Act.put, List.setIfInBounds_toArray, List.set_cons_zero, List.set_cons_succ])
  refine wpAnyK_step (i := 37) rfl (by kernel_rfl) rfl (fun K hK => ?_)
  go_simp
  refine hK.out _ _ hS (fun _ => ?_)
  clear hK K
  (try simp only [Act.put, List.setIfInBounds_toArray, List.set_cons_zero, List.set_cons_succ])
  refine wpAnyK_step (i := 38) rfl (by kernel_rfl) rfl (fun K hK => ?_)
  go_simp
  refine hK.out _ _ hS (fun _ => ?_)
  clear hK K
  (try simp only [Act.put, List.setIfInBounds_toArray, List.set_cons_zero, List.set_cons_succ])
  refine wpAnyK_step (i := 39) rfl (by kernel_rfl) rfl (fun K hK => ?_)
  go_simp
  refine hK.out _ _ hS (fun _ => ?_)
  clear hK K
  (try simp only [Act.put, List.setIfInBounds_toArray, List.set_cons_zero, List.set_cons_succ])
  refine wpAnyK_last rfl (by kernel_rfl) (by kernel_rfl) rfl (fun K hK => ?_)
  go_simp
  refine hK.out _ _ ?_
  clear hK K
  (try simp only [Act.put, List.setIfInBounds_toArray, List.set_cons_zero, List.set_cons_succ])
  all_goals
    go_wp2_with (fail)
    go_ret
    obtain ⟨rfl, rfl⟩ := HMM.out
    exact ⟨A, n, c, A', m + 1, c', rfl, HC7.out.s1 _, own_set2 HN7.out (own_ne HN7.out HC7.out (by decide)), own_set2 (by have q := HO7.out; rw [flat_ins lkC 4 (fun _ => rfl)] at q; unfold addL; rw [HCL.out]; exact q) (own_ne HO7.out HC7.out (by decide)), HB7.out.setCell (p := ⟨g, 1, none⟩) hbg _, fun q hq hqg _ hqr => (Go.heap_setCell_other w7 ⟨g, 1, none⟩ q _ hqg).trans ((HG7.out.block q (Nat.lt_of_lt_of_le (Nat.lt_of_lt_of_le hq HW6.out.size) ((Below.refl _ _).alloc (Nat.le_refl _) _).size) hqr).trans ((Go.heap_alloc_old _ _ (Nat.lt_of_lt_of_le hq HW6.out.size)).trans (HW6.out.block q hq))), fun h => absurd rfl h⟩

end Go.Proofs.Ytgmljlgoaifneaa
