/- The order of routers, in plain words: what the reference's list check and Order come to. Plain Lean over the printed functions. Condition: fewer than 2^44 numbers; a text below 2^63 bytes. -/
import Derived.Test.YtfmookfiakfioaaDoorIdp
import Derived.Sort.LotA
namespace Go.Proofs.YtfmookfiakfioaaDoor.Idn
open Go.RowKit Go.Proofs.YtfmookfiakfioaaDoorW.PrintWords Go.Sort

theorem rd_at (l : List Int) (i : Nat) (h : i < l.length) : rd l (i : Int) = l[i] := by
  unfold rd; rw [Int.toNat_natCast, List.getD_eq_getElem?_getD, List.getElem?_eq_getElem h]; rfl
theorem moreB_swo (z : Int) : SWO (moreB z) where
  irrefl x := by unfold moreB; simp
  trans x y w h1 h2 := by
    unfold moreB at *
    simp only [Bool.or_eq_true, Bool.and_eq_true, decide_eq_true_eq] at *
    omega
  ntrans x y w h1 h2 := by
    unfold moreB at *
    simp only [Bool.or_eq_false_iff, Bool.and_eq_false_iff, decide_eq_false_iff_not] at *
    omega
theorem moreB_conn {z a b : Int} (h1 : moreB z a b = false) (h2 : moreB z b a = false) : a = b := by
  unfold moreB at *
  simp only [Bool.or_eq_false_iff, Bool.and_eq_false_iff, decide_eq_false_iff_not] at *
  omega
def Srt (z : Int) (l : List Int) : Prop := l.Pairwise fun a b => moreB z b a = false
theorem srt_unique {z : Int} {l r : List Int} (h1 : Srt z l) (h2 : Srt z r) (h : l.Perm r) : l = r :=
  List.Perm.eq_of_pairwise (le := fun a b => moreB z b a = false) (fun _ _ _ _ h3 h4 => moreB_conn h4 h3) h1 h2 h
/-- some routers, by how much they want a name -/
def ordL (z : Int) (l : List Int) : List Int := l.mergeSort fun a b => !moreB z b a
theorem ordL_perm (z : Int) (l : List Int) : (ordL z l).Perm l := List.mergeSort_perm _ _
theorem ordL_srt (z : Int) (l : List Int) : Srt z (ordL z l) := by
  have h := List.pairwise_mergeSort (le := fun a b => !moreB z b a) (fun a b c h1 h2 => by
    simp only [Bool.not_eq_true'] at *
    exact (moreB_swo z).ntrans _ _ _ h2 h1) (fun a b => by
    cases h1 : moreB z b a with
    | false => simp
    | true => simp [(moreB_swo z).asymmA h1]) l
  unfold Srt ordL
  simpa using h
theorem ordL_len (z : Int) (l : List Int) : (ordL z l).length = l.length := (ordL_perm z l).length_eq
theorem ordL_eq {z : Int} {l r : List Int} (h : Srt z r) (hp : r.Perm l) : r = ordL z l := srt_unique h (ordL_srt z l) (hp.trans (ordL_perm z l).symm)
theorem ordL_perm_eq {z : Int} {l m : List Int} (h : l.Perm m) : ordL z l = ordL z m := ordL_eq (ordL_srt z l) ((ordL_perm z l).trans h)
/-- which of some routers keeps a name -/
def IsMin (z : Int) (l : List Int) (m : Int) : Prop := m ∈ l ∧ ∀ y ∈ l, moreB z y m = false
theorem isMin_unique {z : Int} {l : List Int} {a b : Int} (ha : IsMin z l a) (hb : IsMin z l b) : a = b := moreB_conn (hb.2 a ha.1) (ha.2 b hb.1)
def drawI (z : Int) (l : List Int) : Int := (ordL z l).headD 0
theorem drawI_min {z : Int} {l : List Int} (h : l ≠ []) : IsMin z l (drawI z l) := by
  have hp := ordL_perm z l
  have hs := ordL_srt z l
  unfold drawI
  cases e : ordL z l with
  | nil => rw [e] at hp; exact absurd hp.symm.eq_nil h
  | cons x r =>
    rw [e] at hp hs
    refine ⟨hp.subset (by simp), fun y hy => ?_⟩
    have hy2 := hp.symm.subset hy
    rcases List.mem_cons.1 hy2 with rfl | hr
    · exact (moreB_swo z).irrefl _
    · exact (List.pairwise_cons.1 hs).1 y hr

theorem idE_ways (n : Int) : idE n = 0 ∨ idE n = 20 := by unfold idE; split; exact .inl rfl; exact .inr rfl
/-- why a list of numbers may not be -/
def listE (l : List Int) : Int := if l.all (fun x => decide (idE x = 0)) = true then (if l.Nodup then 0 else 72) else 20
theorem listE_ways (l : List Int) : listE l = 0 ∨ listE l = 20 ∨ listE l = 72 := by unfold listE; repeat' split
                                                                                    all_goals simp
theorem listE_zero {l : List Int} : listE l = 0 ↔ (∀ x ∈ l, idE x = 0) ∧ l.Nodup := by
  unfold listE
  split
  · rename_i h
    rw [List.all_eq_true] at h
    split
    · rename_i h2; exact ⟨fun _ => ⟨fun x hx => of_decide_eq_true (h x hx), h2⟩, fun _ => rfl⟩
    · rename_i h2; exact ⟨(fun h => by cases h), (fun h => absurd h.2 h2)⟩
  · rename_i h
    exact ⟨(fun h => by cases h), fun h2 => absurd (List.all_eq_true.2 fun x hx => decide_eq_true (h2.1 x hx)) h⟩
theorem listE_perm {l m : List Int} (h : l.Perm m) : listE l = listE m := by
  unfold listE
  rw [show l.all (fun x => decide (idE x = 0)) = m.all (fun x => decide (idE x = 0)) from by rw [Bool.eq_iff_iff, List.all_eq_true, List.all_eq_true]; exact ⟨fun hx x hm => hx x (h.symm.subset hm), fun hx x hm => hx x (h.subset hm)⟩]
  simp only [h.nodup_iff]

open Classical in
theorem rlist2 (l : List Int) (hl : l.length ≤ 17592186043904) (i : Nat) (hi : i < l.length) (R : Int) (hc : Ev (fun k => POrder.beaconref02_list.l1 k l ((i + 1 : Nat) : Int)) R) : ∀ (d j : Nat), j + d = i →
    Ev (fun k => POrder.beaconref02_list.l2 k l (i : Int) (j : Int)) (if ∃ t, j ≤ t ∧ t < i ∧ l[t]? = l[i]? then 72 else R) := by
  intro d
  induction d with
  | zero =>
    intro j hj
    rw [if_neg (fun ⟨t, h1, h2, _⟩ => by omega)]
    refine Ev.step (fun k => ?_) hc
    simp only [POrder.beaconref02_list.l2]
    have hw : wrap64 ((i : Int) + 1) = ((i + 1 : Nat) : Int) := by unfold wrap64; omega
    rw [if_neg (by omega), hw]
  | succ d ih =>
    intro j hj
    have hw : wrap64 ((j : Int) + 1) = ((j + 1 : Nat) : Int) := by unfold wrap64; omega
    have hj2 : j < l.length := by omega
    by_cases he : l[j] = l[i]
    · rw [if_pos ⟨j, Nat.le_refl _, by omega, by rw [List.getElem?_eq_getElem hj2, List.getElem?_eq_getElem hi, he]⟩]
      refine Ev.step (f := fun _ => some 72) (fun k => ?_) (Ev.now _)
      simp only [POrder.beaconref02_list.l2]
      rw [if_pos (by omega), if_pos (by omega), if_pos (by omega), if_pos (by omega), if_pos (by omega), rd_at l j hj2, rd_at l i hi, if_pos he]
    · have e : (∃ t, j ≤ t ∧ t < i ∧ l[t]? = l[i]?) ↔ (∃ t, j + 1 ≤ t ∧ t < i ∧ l[t]? = l[i]?) := by
        constructor
        · rintro ⟨t, h1, h2, h3⟩
          refine ⟨t, ?_, h2, h3⟩
          rcases Nat.lt_or_ge j t with h | h
          · exact h
          · exfalso
            obtain rfl : t = j := by omega
            rw [List.getElem?_eq_getElem hj2, List.getElem?_eq_getElem hi] at h3
            exact he (Option.some.inj h3)
        · rintro ⟨t, h1, h2, h3⟩; exact ⟨t, by omega, h2, h3⟩
      simp only [e]
      refine Ev.step (fun k => ?_) (ih (j + 1) (by omega))
      simp only [POrder.beaconref02_list.l2]
      rw [if_pos (by omega), if_pos (by omega), if_pos (by omega), if_pos (by omega), if_pos (by omega), rd_at l j hj2, rd_at l i hi, if_neg he, hw]
def dupFrom (l : List Int) (i : Nat) : Prop := ∃ t s, i ≤ s ∧ s < l.length ∧ t < s ∧ l[t]? = l[s]?
open Classical in
theorem rlist1 (l : List Int) (hl : l.length ≤ 17592186043904) : ∀ (d i : Nat), i + d = l.length →
    Ev (fun k => POrder.beaconref02_list.l1 k l (i : Int)) (if dupFrom l i then 72 else 0) := by
  intro d
  induction d with
  | zero =>
    intro i hi
    rw [if_neg (fun ⟨t, s, h1, h2, _⟩ => by omega)]
    exact Ev.step (f := fun _ => some 0) (fun k => by simp only [POrder.beaconref02_list.l1]; rw [if_neg (by omega)]) (Ev.now _)
  | succ d ih =>
    intro i hi
    have h2 := rlist2 l hl i (by omega) _ (ih (i + 1) (by omega)) i 0 (by omega)
    refine Ev.step (f := fun k => POrder.beaconref02_list.l2 k l (i : Int) ((0 : Nat) : Int)) (fun k => by simp only [POrder.beaconref02_list.l1]; rw [if_pos (by omega)]; rfl) ?_
    have e : (if dupFrom l i then (72 : Int) else 0) = if ∃ t, 0 ≤ t ∧ t < i ∧ l[t]? = l[i]? then 72 else if dupFrom l (i + 1) then 72 else 0 := by
      by_cases a : ∃ t, 0 ≤ t ∧ t < i ∧ l[t]? = l[i]?
      · rw [if_pos a, if_pos]
        obtain ⟨t, _, h1, h3⟩ := a
        exact ⟨t, i, Nat.le_refl _, by omega, h1, h3⟩
      · rw [if_neg a]
        have : dupFrom l i ↔ dupFrom l (i + 1) := by
          constructor
          · rintro ⟨t, s, h1, h3, h4, h5⟩
            refine ⟨t, s, ?_, h3, h4, h5⟩
            rcases Nat.lt_or_ge i s with h | h
            · exact h
            · exfalso
              obtain rfl : s = i := by omega
              exact a ⟨t, Nat.zero_le _, h4, h5⟩
          · rintro ⟨t, s, h1, h3, h4, h5⟩; exact ⟨t, s, by omega, h3, h4, h5⟩
        simp only [this]
    rw [e]
    exact h2
theorem nodup_iff (l : List Int) : l.Nodup ↔ ¬ dupFrom l 0 := by
  rw [List.nodup_iff_pairwise_ne, List.pairwise_iff_getElem]
  constructor
  · rintro h ⟨t, s, _, h2, h3, h4⟩
    rw [List.getElem?_eq_getElem (by omega), List.getElem?_eq_getElem h2] at h4
    exact h t s (by omega) h2 h3 (Option.some.inj h4)
  · intro h t s ht hs hts he
    exact h ⟨t, s, Nat.zero_le _, hs, hts, by rw [List.getElem?_eq_getElem ht, List.getElem?_eq_getElem hs, he]⟩
open Classical in
theorem rlist0 (l : List Int) (hl : l.length ≤ 17592186043904) : ∀ (d i : Nat), i + d = l.length →
    Ev (fun k => POrder.beaconref02_list.l0 k l (i : Int)) (if (l.drop i).all (fun x => decide (idE x = 0)) = true then (if dupFrom l 0 then 72 else 0) else 20) := by
  intro d
  induction d with
  | zero =>
    intro i hi
    rw [if_pos (by rw [List.drop_eq_nil_of_le (by omega)]; rfl)]
    exact Ev.step (f := fun k => POrder.beaconref02_list.l1 k l ((0 : Nat) : Int)) (fun k => by simp only [POrder.beaconref02_list.l0]; rw [if_neg (by omega)]; rfl) (rlist1 l hl l.length 0 (by omega))
  | succ d ih =>
    intro i hi
    have hw : wrap64 ((i : Int) + 1) = ((i + 1 : Nat) : Int) := by unfold wrap64; omega
    have hd : l.drop i = l[i] :: l.drop (i + 1) := List.drop_eq_getElem_cons (by omega)
    by_cases h0 : idE l[i] = 0
    · rw [hd, List.all_cons, decide_eq_true h0, Bool.true_and]
      refine Ev.step (fun k => ?_) (ih (i + 1) (by omega))
      simp only [POrder.beaconref02_list.l0]
      rw [if_pos (by omega), if_pos (by omega), rd_at l i (by omega), rcheckId, Option.bind_some, if_pos h0, hw]
    · rw [hd, List.all_cons, decide_eq_false h0, Bool.false_and, if_neg (by decide)]
      have h20 : idE l[i] = 20 := (idE_ways _).resolve_left h0
      refine Ev.step (f := fun _ => some 20) (fun k => ?_) (Ev.now _)
      simp only [POrder.beaconref02_list.l0]
      rw [if_pos (by omega), if_pos (by omega), rd_at l i (by omega), rcheckId, Option.bind_some, if_neg h0, h20]
open Classical in
theorem rlist (l : List Int) (hl : l.length ≤ 17592186043904) : Ev (fun k => POrder.beaconref02_list.f k l) (listE l) := by
  have h := rlist0 l hl l.length 0 (by omega)
  rw [List.drop_zero] at h
  have e : listE l = if l.all (fun x => decide (idE x = 0)) = true then (if dupFrom l 0 then 72 else 0) else 20 := by
    unfold listE
    split
    · by_cases hn : l.Nodup
      · rw [if_pos hn, if_neg ((nodup_iff l).1 hn)]
      · rw [if_neg hn, if_pos (Classical.not_not.1 fun hd => hn ((nodup_iff l).2 hd))]
    · rfl
  rw [e]
  exact h
theorem set_swap (A B : List Int) (y x : Int) : ((A ++ y :: x :: B).set (A.length + 1) y).set A.length x = A ++ x :: y :: B := by
  rw [List.set_append_right _ _ (by omega), List.set_append_right _ _ (by omega)]
  simp
theorem rd_mid (A B : List Int) (y : Int) : rd (A ++ y :: B) (A.length : Int) = y := by
  rw [rd_at _ _ (by simp)]; simp
theorem rorder1 (l : List Int) (s : ByteArray) (hs : s.size ≤ 9223372036854775807) (i : Nat) (hi : i < l.length) (hl : l.length ≤ 17592186043904) (R : List Int × Int) (L : List Int)
    (hc : ∀ r : List Int, r.Perm L → Srt (sumI s) r → Ev (fun k => POrder.beaconref02_Order.l0 k l s r ((i + 1 : Nat) : Int)) R) :
    ∀ (n : Nat) (A B : List Int) (x : Int), A.length = n → n ≤ i → (A ++ x :: B).Perm L → Srt (sumI s) (A ++ B) → (∀ b ∈ B, moreB (sumI s) x b = true) →
      Ev (fun k => POrder.beaconref02_Order.l1 k l s (A ++ x :: B) (i : Int) (n : Int)) R := by
  have hw : wrap64 ((i : Int) + 1) = ((i + 1 : Nat) : Int) := by unfold wrap64; omega
  intro n
  induction n with
  | zero =>
    intro A B x hA hn hp hsrt hB
    obtain rfl : A = [] := List.eq_nil_of_length_eq_zero hA
    refine Ev.step (fun k => ?_) (hc (x :: B) hp (List.pairwise_cons.2 ⟨fun b hb => (moreB_swo _).asymmA (hB b hb), hsrt⟩))
    simp only [POrder.beaconref02_Order.l1]
    rw [if_neg (by omega), hw]; rfl
  | succ n ih =>
    intro A B x hA hn hp hsrt hB
    obtain ⟨A', y, rfl⟩ : ∃ A' y, A = A' ++ [y] := ⟨A.dropLast, A.getLast (by intro h; rw [h] at hA; simp at hA), (List.dropLast_concat_getLast _).symm⟩
    have hA' : A'.length = n := by simpa using hA
    have e1 : A' ++ [y] ++ x :: B = A' ++ y :: x :: B := by simp
    have hwd : wrap64 (((n + 1 : Nat) : Int) - 1) = (n : Int) := by unfold wrap64; omega
    have hlen : (A' ++ y :: x :: B).length = A'.length + 2 + B.length := by simp; omega
    have r1 : rd (A' ++ y :: x :: B) (n : Int) = y := by rw [← hA']; exact rd_mid A' (x :: B) y
    have r2 : rd (A' ++ y :: x :: B) ((n + 1 : Nat) : Int) = x := by
      have := rd_mid (A' ++ [y]) B x
      simpa [hA'] using this
    have step : ∀ k, POrder.beaconref02_Order.l1 (k + 1) l s (A' ++ [y] ++ x :: B) (i : Int) ((n + 1 : Nat) : Int) = (POrder.beaconref02_more.f k x y s).bind fun t => if t = true then POrder.beaconref02_Order.l1 k l s (A' ++ x :: y :: B) (i : Int) (n : Int) else POrder.beaconref02_Order.l0 k l s (A' ++ y :: x :: B) ((i + 1 : Nat) : Int) := by
      intro k
      rw [e1]
      simp only [POrder.beaconref02_Order.l1]
      rw [if_pos (by omega), if_pos (by omega), if_pos (by rw [hlen]; omega), hwd, if_pos (by omega), if_pos (by rw [hlen]; omega), r1, r2, hw]
      have : ((A' ++ y :: x :: B).set (((n + 1 : Nat) : Int)).toNat y).set ((n : Int)).toNat x = A' ++ x :: y :: B := by
        rw [Int.toNat_natCast, Int.toNat_natCast, ← hA']; exact set_swap A' B y x
      rw [this]
    refine Ev.step step (Ev.bind (rmore x y s hs) ?_)
    cases hm : moreB (sumI s) x y with
    | true =>
      refine Ev.pos rfl (ih A' (y :: B) x hA' (by omega) ?_ (by simpa using hsrt) (fun b hb => ?_))
      · refine List.Perm.trans ?_ hp
        rw [e1]
        exact List.Perm.append_left A' (List.Perm.swap y x B)
      · rcases List.mem_cons.1 hb with rfl | h
        · exact hm
        · exact hB b h
    | false =>
      refine Ev.neg (by decide) (hc _ (by rw [← e1]; exact hp) ?_)
      have h1 := List.pairwise_append.1 hsrt
      rw [← e1]
      refine List.pairwise_append.2 ⟨h1.1, List.pairwise_cons.2 ⟨fun b hb => (moreB_swo _).asymmA (hB b hb), h1.2.1⟩, fun a ha b hb => ?_⟩
      have hxa : moreB (sumI s) x a = false := by
        rcases List.mem_append.1 ha with h | h
        · exact (moreB_swo _).ntrans _ _ _ hm ((List.pairwise_append.1 h1.1).2.2 a h y (by simp))
        · simp at h; subst h; exact hm
      rcases List.mem_cons.1 hb with rfl | h
      · exact hxa
      · exact h1.2.2 a ha b h
theorem rorder0 (l : List Int) (s : ByteArray) (hs : s.size ≤ 9223372036854775807) (hl : l.length ≤ 17592186043904) : ∀ (d i : Nat) (r : List Int), i + d = l.length → r.Perm (l.take i) → Srt (sumI s) r →
    Ev (fun k => POrder.beaconref02_Order.l0 k l s r (i : Int)) (ordL (sumI s) l, 0) := by
  intro d
  induction d with
  | zero =>
    intro i r hi hp hr
    rw [List.take_of_length_le (by omega)] at hp
    rw [← ordL_eq hr hp]
    exact Ev.step (f := fun _ => some (r, 0)) (fun k => by simp only [POrder.beaconref02_Order.l0]; rw [if_neg (by omega)]) (Ev.now _)
  | succ d ih =>
    intro i r hi hp hr
    have hlen : r.length = i := by rw [hp.length_eq, List.length_take]; omega
    have h := rorder1 l s hs i (by omega) hl (ordL (sumI s) l, 0) (l.take (i + 1)) (fun r' hp' hr' => ih (i + 1) r' (by omega) hp' hr') i r [] l[i] hlen (Nat.le_refl _)
      (by rw [List.take_succ_eq_append_getElem (by omega)]; exact List.Perm.append_right _ hp) (by simpa using hr) (by simp)
    refine Ev.step (fun k => ?_) h
    simp only [POrder.beaconref02_Order.l0]
    rw [if_pos (by omega), if_pos (by omega), if_pos (by omega), rd_at l i (by omega)]
def orderL (l : List Int) (s : ByteArray) : List Int := if nameE s = 0 ∧ listE l = 0 then ordL (sumI s) l else []
def orderE (l : List Int) (s : ByteArray) : Int := if nameE s = 0 then listE l else nameE s
theorem rorder (l : List Int) (s : ByteArray) (hs : s.size ≤ 9223372036854775807) (hl : l.length ≤ 17592186043904) : Ev (fun k => POrder.beaconref02_Order.f k l s) (orderL l s, orderE l s) := by
  unfold POrder.beaconref02_Order.f
  refine Ev.bind (rcheckName s) ?_
  have hj : ∀ e, e ≠ 0 → Ev (fun k => POrder.beaconref02_Order.j0 k l s e) ([], e) := fun e he => Ev.step (f := fun _ => some ([], e)) (fun k => by simp only [POrder.beaconref02_Order.j0]; rw [if_neg he]) (Ev.now _)
  by_cases h : nameE s = 0
  · refine Ev.pos h (Ev.bind (rlist l hl) ?_)
    by_cases h2 : listE l = 0
    · rw [show (orderL l s, orderE l s) = (ordL (sumI s) l, 0) by unfold orderL orderE; rw [if_pos ⟨h, h2⟩, if_pos h, h2], h2]
      exact Ev.step (f := fun k => POrder.beaconref02_Order.l0 k l s [] ((0 : Nat) : Int)) (fun k => by simp only [POrder.beaconref02_Order.j0]; rfl) (rorder0 l s hs hl l.length 0 [] (by omega) (by simp) (by unfold Srt; simp))
    · rw [show (orderL l s, orderE l s) = ([], listE l) by unfold orderL orderE; rw [if_neg (fun x => h2 x.2), if_pos h]]
      exact hj _ h2
  · refine Ev.neg h ?_
    rw [show (orderL l s, orderE l s) = ([], nameE s) by unfold orderL orderE; rw [if_neg (fun x => h x.1), if_neg h]]
    exact hj _ h
end Go.Proofs.YtfmookfiakfioaaDoor.Idn
