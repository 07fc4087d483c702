/- Which of some routers keeps a name, in plain words: what the reference's Draw comes to. Plain Lean over the printed functions. Condition: fewer than 2^44 numbers; a text below 2^63 bytes. -/
import Derived.Test.YtfmookfiakfioaaDoorIdo
import Derived.Test.YtfmookfiakfioaaDoorPDrawx2
namespace Go.Proofs.YtfmookfiakfioaaDoor.Idn.D
open Go.RowKit Go.Proofs.YtfmookfiakfioaaDoorW.PrintWords Go.Sort

theorem letter_eq (c : Int) : PDraw.beaconref02_letter.f c = some (decide (97 ≤ c) && decide (c ≤ 122)) := by
  unfold PDraw.beaconref02_letter.f
  split <;> (congr 1; simp; omega)
theorem digit_eq (c : Int) : PDraw.beaconref02_digit.f c = some (decide (48 ≤ c) && decide (c ≤ 57)) := by
  unfold PDraw.beaconref02_digit.f
  split <;> (congr 1; simp; omega)
theorem rname_loop (s : ByteArray) (hs : s.size ≤ 32) : ∀ (d i : Nat), i + d = s.size → Ev (fun k => PDraw.beaconref02_CheckName.l0 k s (s.size : Int) (i : Int)) (if restOk s d i = true then 0 else 21) := by
  intro d
  induction d with
  | zero =>
    intro i hi
    exact Ev.step (f := fun _ => some 0) (fun k => by simp only [PDraw.beaconref02_CheckName.l0]; rw [if_neg (by omega)]) (Ev.now 0)
  | succ d ih =>
    intro i hi
    have ih := ih (i + 1) (by omega)
    have hw : wrap64 ((i : Int) + 1) = ((i + 1 : Nat) : Int) := by unfold wrap64; omega
    cases h1 : (decide (97 ≤ bt s i) && decide (bt s i ≤ 122)) with
    | true =>
      have ho : okC (bt s i) = true := by unfold okC; rw [h1]; simp
      refine Ev.step (f := fun k => PDraw.beaconref02_CheckName.l0 k s (s.size : Int) ((i + 1 : Nat) : Int)) (fun k => ?_) (by rw [show restOk s (d + 1) i = restOk s d (i + 1) by simp [restOk, ho]]; exact ih)
      simp only [PDraw.beaconref02_CheckName.l0]
      rw [if_pos (by omega), if_pos (by omega), if_pos (by omega), letter_eq, h1, hw]
      rfl
    | false =>
      cases h2 : (decide (48 ≤ bt s i) && decide (bt s i ≤ 57)) with
      | true =>
        have ho : okC (bt s i) = true := by unfold okC; rw [h2]; simp
        refine Ev.step (f := fun k => PDraw.beaconref02_CheckName.l0 k s (s.size : Int) ((i + 1 : Nat) : Int)) (fun k => ?_) (by rw [show restOk s (d + 1) i = restOk s d (i + 1) by simp [restOk, ho]]; exact ih)
        simp only [PDraw.beaconref02_CheckName.l0]
        rw [if_pos (by omega), if_pos (by omega), if_pos (by omega), letter_eq, h1, digit_eq, h2, hw]
        rfl
      | false =>
        by_cases h3 : bt s i = 45
        · have ho : okC (bt s i) = true := by unfold okC; rw [h3]; rfl
          refine Ev.step (f := fun k => PDraw.beaconref02_CheckName.l0 k s (s.size : Int) ((i + 1 : Nat) : Int)) (fun k => ?_) (by rw [show restOk s (d + 1) i = restOk s d (i + 1) by simp [restOk, ho]]; exact ih)
          simp only [PDraw.beaconref02_CheckName.l0]
          rw [if_pos (by omega), if_pos (by omega), if_pos (by omega), letter_eq, h1, digit_eq, h2, hw]
          simp only [Option.bind_some]
          rw [if_neg (by decide), if_neg (by decide), if_pos h3]
        · have ho : okC (bt s i) = false := by unfold okC; rw [h1, h2]; simp [h3]
          rw [show restOk s (d + 1) i = false by simp [restOk, ho]]
          refine Ev.step (f := fun _ => some 21) (fun k => ?_) (Ev.now _)
          simp only [PDraw.beaconref02_CheckName.l0]
          rw [if_pos (by omega), if_pos (by omega), if_pos (by omega), letter_eq, h1, digit_eq, h2]
          simp only [Option.bind_some]
          rw [if_neg (by decide), if_neg (by decide), if_neg h3]
theorem rcheckName (s : ByteArray) : Ev (fun k => PDraw.beaconref02_CheckName.f k s) (nameE s) := by
  have hj : Ev (fun k => PDraw.beaconref02_CheckName.j0 k s (s.size : Int) true) 21 := Ev.step (f := fun _ => some 21) (fun k => by simp only [PDraw.beaconref02_CheckName.j0]; rfl) (Ev.now _)
  unfold PDraw.beaconref02_CheckName.f
  by_cases h1 : s.size < 1
  · refine Ev.pos (by omega) ?_; rw [show nameE s = 21 by unfold nameE; rw [if_pos (by omega)]]; exact hj
  · refine Ev.neg (by omega) ?_
    by_cases h2 : 32 < s.size
    · refine Ev.pos (by omega) ?_; rw [show nameE s = 21 by unfold nameE; rw [if_pos (by omega)]]; exact hj
    · refine Ev.neg (by omega) (Ev.pos (by omega) ?_)
      rw [letter_eq]
      simp only [Option.bind_some]
      by_cases h3 : 97 ≤ bt s 0 ∧ bt s 0 ≤ 122
      · have hw : wrap64 ((s.size : Int) - 1) = (s.size : Int) - 1 := wrap_dn (by omega) (by omega)
        refine Ev.pos (by simpa using h3) ?_
        rw [hw]
        refine Ev.pos (by omega) (Ev.pos (by omega) ?_)
        by_cases h5 : bt s ((s.size : Int) - 1) = 45
        · rw [show nameE s = 21 by unfold nameE; rw [if_pos (by omega)], h5]; exact hj
        · have e : nameE s = if restOk s s.size 0 = true then 0 else 21 := by unfold nameE; rw [if_neg (by omega)]
          rw [e]
          refine Ev.step (f := fun k => PDraw.beaconref02_CheckName.l0 k s (s.size : Int) ((0 : Nat) : Int)) (fun k => ?_) (rname_loop s (by omega) s.size 0 (by omega))
          simp only [PDraw.beaconref02_CheckName.j0]
          rw [if_neg (by simpa using h5)]
          rfl
      · refine Ev.neg (by simpa using h3) ?_
        rw [show nameE s = 21 by unfold nameE; rw [if_pos (by omega)]]; exact hj
theorem rcheckId (n : Int) : PDraw.beaconref02_CheckId.f n = some (idE n) := checkId n
theorem rsum_loop (s : ByteArray) (hs : s.size ≤ 9223372036854775807) : ∀ (d i : Nat) (a : Int), i + d = s.size → Ev (fun k => PDraw.beaconref02_Sum.l0 k s a (i : Int)) (sumFrom s d i a) := by
  intro d
  induction d with
  | zero =>
    intro i a hi
    exact Ev.step (f := fun _ => some a) (fun k => by simp only [PDraw.beaconref02_Sum.l0]; rw [if_neg (by omega)]) (Ev.now a)
  | succ d ih =>
    intro i a hi
    have hw : wrap64 ((i : Int) + 1) = ((i + 1 : Nat) : Int) := by unfold wrap64; omega
    refine Ev.step (fun k => ?_) (ih (i + 1) _ (by omega))
    simp only [PDraw.beaconref02_Sum.l0]
    rw [if_pos (by omega), if_pos (by omega), hw]
theorem rsum (s : ByteArray) (hs : s.size ≤ 9223372036854775807) : Ev (fun k => PDraw.beaconref02_Sum.f k s) (sumI s) := rsum_loop s hs s.size 0 _ (by omega)
theorem rmix (x : Int) : PDraw.beaconref02_Mix.f x = some (mixI x) := rfl
theorem rscore (a : Int) (s : ByteArray) (hs : s.size ≤ 9223372036854775807) : Ev (fun k => PDraw.beaconref02_score.f k a s) (scoreI a (sumI s)) := by
  unfold PDraw.beaconref02_score.f
  refine Ev.bind (rsum s hs) ?_
  simp only [rmix, Option.bind_some]
  exact Ev.now _
theorem rmore (a b : Int) (s : ByteArray) (hs : s.size ≤ 9223372036854775807) : Ev (fun k => PDraw.beaconref02_more.f k a b s) (moreB (sumI s) a b) := by
  unfold PDraw.beaconref02_more.f
  refine Ev.bind (rscore a s hs) (Ev.bind (rscore b s hs) ?_)
  unfold moreB
  generalize scoreI a (sumI s) = x
  generalize scoreI b (sumI s) = y
  by_cases h : y < x
  · refine Ev.pos (by omega) ?_
    rw [show (decide (y < x) || (decide (x = y) && decide (a < b))) = true by simp [h]]; exact Ev.now _
  · refine Ev.neg (by omega) ?_
    by_cases h2 : x = y
    · refine Ev.pos h2 ?_
      rw [show (decide (y < x) || (decide (x = y) && decide (a < b))) = decide (a < b) by simp [h2]]; exact Ev.now _
    · refine Ev.neg h2 ?_
      rw [show (decide (y < x) || (decide (x = y) && decide (a < b))) = false by simp [h, h2]]; exact Ev.now _
open Classical in
theorem rlist2 (l : List Int) (hl : l.length ≤ 17592186043904) (i : Nat) (hi : i < l.length) (R : Int) (hc : Ev (fun k => PDraw.beaconref02_list.l1 k l ((i + 1 : Nat) : Int)) R) : ∀ (d j : Nat), j + d = i →
    Ev (fun k => PDraw.beaconref02_list.l2 k l (i : Int) (j : Int)) (if ∃ t, j ≤ t ∧ t < i ∧ l[t]? = l[i]? then 72 else R) := by
  intro d
  induction d with
  | zero =>
    intro j hj
    rw [if_neg (fun ⟨t, h1, h2, _⟩ => by omega)]
    refine Ev.step (fun k => ?_) hc
    simp only [PDraw.beaconref02_list.l2]
    have hw : wrap64 ((i : Int) + 1) = ((i + 1 : Nat) : Int) := by unfold wrap64; omega
    rw [if_neg (by omega), hw]
  | succ d ih =>
    intro j hj
    have hw : wrap64 ((j : Int) + 1) = ((j + 1 : Nat) : Int) := by unfold wrap64; omega
    have hj2 : j < l.length := by omega
    by_cases he : l[j] = l[i]
    · rw [if_pos ⟨j, Nat.le_refl _, by omega, by rw [List.getElem?_eq_getElem hj2, List.getElem?_eq_getElem hi, he]⟩]
      refine Ev.step (f := fun _ => some 72) (fun k => ?_) (Ev.now _)
      simp only [PDraw.beaconref02_list.l2]
      rw [if_pos (by omega), if_pos (by omega), if_pos (by omega), if_pos (by omega), if_pos (by omega), rd_at l j hj2, rd_at l i hi, if_pos he]
    · have e : (∃ t, j ≤ t ∧ t < i ∧ l[t]? = l[i]?) ↔ (∃ t, j + 1 ≤ t ∧ t < i ∧ l[t]? = l[i]?) := by
        constructor
        · rintro ⟨t, h1, h2, h3⟩
          refine ⟨t, ?_, h2, h3⟩
          rcases Nat.lt_or_ge j t with h | h
          · exact h
          · exfalso
            obtain rfl : t = j := by omega
            rw [List.getElem?_eq_getElem hj2, List.getElem?_eq_getElem hi] at h3
            exact he (Option.some.inj h3)
        · rintro ⟨t, h1, h2, h3⟩; exact ⟨t, by omega, h2, h3⟩
      simp only [e]
      refine Ev.step (fun k => ?_) (ih (j + 1) (by omega))
      simp only [PDraw.beaconref02_list.l2]
      rw [if_pos (by omega), if_pos (by omega), if_pos (by omega), if_pos (by omega), if_pos (by omega), rd_at l j hj2, rd_at l i hi, if_neg he, hw]
open Classical in
theorem rlist1 (l : List Int) (hl : l.length ≤ 17592186043904) : ∀ (d i : Nat), i + d = l.length →
    Ev (fun k => PDraw.beaconref02_list.l1 k l (i : Int)) (if dupFrom l i then 72 else 0) := by
  intro d
  induction d with
  | zero =>
    intro i hi
    rw [if_neg (fun ⟨t, s, h1, h2, _⟩ => by omega)]
    exact Ev.step (f := fun _ => some 0) (fun k => by simp only [PDraw.beaconref02_list.l1]; rw [if_neg (by omega)]) (Ev.now _)
  | succ d ih =>
    intro i hi
    have h2 := rlist2 l hl i (by omega) _ (ih (i + 1) (by omega)) i 0 (by omega)
    refine Ev.step (f := fun k => PDraw.beaconref02_list.l2 k l (i : Int) ((0 : Nat) : Int)) (fun k => by simp only [PDraw.beaconref02_list.l1]; rw [if_pos (by omega)]; rfl) ?_
    have e : (if dupFrom l i then (72 : Int) else 0) = if ∃ t, 0 ≤ t ∧ t < i ∧ l[t]? = l[i]? then 72 else if dupFrom l (i + 1) then 72 else 0 := by
      by_cases a : ∃ t, 0 ≤ t ∧ t < i ∧ l[t]? = l[i]?
      · rw [if_pos a, if_pos]
        obtain ⟨t, _, h1, h3⟩ := a
        exact ⟨t, i, Nat.le_refl _, by omega, h1, h3⟩
      · rw [if_neg a]
        have : dupFrom l i ↔ dupFrom l (i + 1) := by
          constructor
          · rintro ⟨t, s, h1, h3, h4, h5⟩
            refine ⟨t, s, ?_, h3, h4, h5⟩
            rcases Nat.lt_or_ge i s with h | h
            · exact h
            · exfalso
              obtain rfl : s = i := by omega
              exact a ⟨t, Nat.zero_le _, h4, h5⟩
          · rintro ⟨t, s, h1, h3, h4, h5⟩; exact ⟨t, s, by omega, h3, h4, h5⟩
        simp only [this]
    rw [e]
    exact h2
open Classical in
theorem rlist0 (l : List Int) (hl : l.length ≤ 17592186043904) : ∀ (d i : Nat), i + d = l.length →
    Ev (fun k => PDraw.beaconref02_list.l0 k l (i : Int)) (if (l.drop i).all (fun x => decide (idE x = 0)) = true then (if dupFrom l 0 then 72 else 0) else 20) := by
  intro d
  induction d with
  | zero =>
    intro i hi
    rw [if_pos (by rw [List.drop_eq_nil_of_le (by omega)]; rfl)]
    exact Ev.step (f := fun k => PDraw.beaconref02_list.l1 k l ((0 : Nat) : Int)) (fun k => by simp only [PDraw.beaconref02_list.l0]; rw [if_neg (by omega)]; rfl) (rlist1 l hl l.length 0 (by omega))
  | succ d ih =>
    intro i hi
    have hw : wrap64 ((i : Int) + 1) = ((i + 1 : Nat) : Int) := by unfold wrap64; omega
    have hd : l.drop i = l[i] :: l.drop (i + 1) := List.drop_eq_getElem_cons (by omega)
    by_cases h0 : idE l[i] = 0
    · rw [hd, List.all_cons, decide_eq_true h0, Bool.true_and]
      refine Ev.step (fun k => ?_) (ih (i + 1) (by omega))
      simp only [PDraw.beaconref02_list.l0]
      rw [if_pos (by omega), if_pos (by omega), rd_at l i (by omega), rcheckId, Option.bind_some, if_pos h0, hw]
    · rw [hd, List.all_cons, decide_eq_false h0, Bool.false_and, if_neg (by decide)]
      have h20 : idE l[i] = 20 := (idE_ways _).resolve_left h0
      refine Ev.step (f := fun _ => some 20) (fun k => ?_) (Ev.now _)
      simp only [PDraw.beaconref02_list.l0]
      rw [if_pos (by omega), if_pos (by omega), rd_at l i (by omega), rcheckId, Option.bind_some, if_neg h0, h20]
open Classical in
theorem rlist (l : List Int) (hl : l.length ≤ 17592186043904) : Ev (fun k => PDraw.beaconref02_list.f k l) (listE l) := by
  have h := rlist0 l hl l.length 0 (by omega)
  rw [List.drop_zero] at h
  have e : listE l = if l.all (fun x => decide (idE x = 0)) = true then (if dupFrom l 0 then 72 else 0) else 20 := by
    unfold listE
    split
    · by_cases hn : l.Nodup
      · rw [if_pos hn, if_neg ((nodup_iff l).1 hn)]
      · rw [if_neg hn, if_pos (Classical.not_not.1 fun hd => hn ((nodup_iff l).2 hd))]
    · rfl
  rw [e]
  exact h
theorem rdraw0 (l : List Int) (s : ByteArray) (hs : s.size ≤ 9223372036854775807) (hl : l.length ≤ 17592186043904) (hn : l ≠ []) : ∀ (d i : Nat) (b : Int), i + d = l.length → b ∈ l → (∀ y ∈ l.take i, moreB (sumI s) y b = false) →
    Ev (fun k => PDraw.beaconref02_Draw.l0 k l s b (i : Int)) (drawI (sumI s) l, 0) := by
  intro d
  induction d with
  | zero =>
    intro i b hi hb hm
    rw [List.take_of_length_le (by omega)] at hm
    rw [← isMin_unique (z := sumI s) (l := l) ⟨hb, hm⟩ (drawI_min hn)]
    exact Ev.step (f := fun _ => some (b, 0)) (fun k => by simp only [PDraw.beaconref02_Draw.l0]; rw [if_neg (by omega)]) (Ev.now _)
  | succ d ih =>
    intro i b hi hb hm
    have hw : wrap64 ((i : Int) + 1) = ((i + 1 : Nat) : Int) := by unfold wrap64; omega
    have hil : i < l.length := by omega
    have step : ∀ k, PDraw.beaconref02_Draw.l0 (k + 1) l s b (i : Int) = (PDraw.beaconref02_more.f k l[i] b s).bind fun t => if t = true then PDraw.beaconref02_Draw.l0 k l s l[i] ((i + 1 : Nat) : Int) else PDraw.beaconref02_Draw.l0 k l s b ((i + 1 : Nat) : Int) := by
      intro k
      simp only [PDraw.beaconref02_Draw.l0]
      rw [if_pos (by omega), if_pos (by omega), rd_at l i hil, hw]
    refine Ev.step step (Ev.bind (rmore _ _ s hs) ?_)
    cases hx : moreB (sumI s) l[i] b with
    | true =>
      refine Ev.pos rfl (ih (i + 1) l[i] (by omega) (List.getElem_mem _) fun y hy => ?_)
      rw [List.take_succ_eq_append_getElem hil] at hy
      rcases List.mem_append.1 hy with h | h
      · exact (moreB_swo _).ntrans _ _ _ (hm y h) ((moreB_swo _).asymmA hx)
      · simp at h; subst h; exact (moreB_swo _).irrefl _
    | false =>
      refine Ev.neg (by decide) (ih (i + 1) b (by omega) hb fun y hy => ?_)
      rw [List.take_succ_eq_append_getElem hil] at hy
      rcases List.mem_append.1 hy with h | h
      · exact hm y h
      · simp at h; subst h; exact hx
end Go.Proofs.YtfmookfiakfioaaDoor.Idn.D
namespace Go.Proofs.YtfmookfiakfioaaDoor.Idn
open Go.RowKit Go.Proofs.YtfmookfiakfioaaDoorW.PrintWords Go.Sort
def drawW (l : List Int) (s : ByteArray) : Int := if nameE s = 0 ∧ listE l = 0 ∧ l ≠ [] then drawI (sumI s) l else 0
def drawE (l : List Int) (s : ByteArray) : Int := if orderE l s = 0 then (if l = [] then 4 else 0) else orderE l s
theorem rdraw (l : List Int) (s : ByteArray) (hs : s.size ≤ 9223372036854775807) (hl : l.length ≤ 17592186043904) : Ev (fun k => PDraw.beaconref02_Draw.f k l s) (drawW l s, drawE l s) := by
  unfold PDraw.beaconref02_Draw.f
  refine Ev.bind (D.rcheckName s) ?_
  have hj : ∀ e, e ≠ 0 → Ev (fun k => PDraw.beaconref02_Draw.j0 k l s e) (0, e) := fun e he => Ev.step (f := fun _ => some (0, e)) (fun k => by simp only [PDraw.beaconref02_Draw.j0]; rw [if_neg he]) (Ev.now _)
  by_cases h : nameE s = 0
  · refine Ev.pos h (Ev.bind (D.rlist l hl) ?_)
    have ho : orderE l s = listE l := by unfold orderE; rw [if_pos h]
    by_cases h2 : listE l = 0
    · by_cases h3 : l = []
      · rw [show (drawW l s, drawE l s) = (0, 4) by unfold drawW drawE; rw [if_neg (fun x => x.2.2 h3), ho, if_pos h2, if_pos h3], h2]
        refine Ev.step (f := fun _ => some (0, 4)) (fun k => ?_) (Ev.now _)
        subst h3
        simp only [PDraw.beaconref02_Draw.j0]; rfl
      · have hpos : 0 < l.length := List.length_pos_iff.2 h3
        rw [show (drawW l s, drawE l s) = (drawI (sumI s) l, 0) by unfold drawW drawE; rw [if_pos ⟨h, h2, h3⟩, ho, if_pos h2, if_neg h3], h2]
        refine Ev.step (f := fun k => PDraw.beaconref02_Draw.l0 k l s (rd l 0) ((0 : Nat) : Int)) (fun k => ?_) (D.rdraw0 l s hs hl h3 l.length 0 _ (by omega) ?_ (by simp))
        · simp only [PDraw.beaconref02_Draw.j0]
          rw [if_pos trivial, if_neg (by omega), if_pos (by omega)]; rfl
        · have := rd_at l 0 hpos
          rw [show rd l 0 = l[0] from this]; exact List.getElem_mem _
    · rw [show (drawW l s, drawE l s) = (0, listE l) by unfold drawW drawE; rw [if_neg (fun x => h2 x.2.1), ho, if_neg h2]]
      exact hj _ h2
  · refine Ev.neg h ?_
    have ho : orderE l s = nameE s := by unfold orderE; rw [if_neg h]
    rw [show (drawW l s, drawE l s) = (0, nameE s) by unfold drawW drawE; rw [if_neg (fun x => h x.1), ho, if_neg h]]
    exact hj _ h
end Go.Proofs.YtfmookfiakfioaaDoor.Idn
