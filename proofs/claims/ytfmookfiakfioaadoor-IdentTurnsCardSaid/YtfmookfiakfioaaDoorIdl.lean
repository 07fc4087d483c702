/- The contracts of both texts' functions, each as one plain function of its arguments; the walks of the laws on checks, sums and draws. Conditions: lists of fewer than 2^44 numbers; texts below 2^63 bytes; the library's table of powers of ten lies as its text lays it. -/
import Derived.Test.YtfmookfiakfioaaDoorIdt
import Derived.Test.YtfmookfiakfioaaDoorPsamex1
import Derived.Test.YtfmookfiakfioaaDoorPcopiedx1
import Derived.Test.YtfmookfiakfioaaDoorPinx1
import Derived.Test.YtfmookfiakfioaaDoorGen
namespace Go.Proofs.YtfmookfiakfioaaDoor
open Go.RowKit Go.Mem Idn Go.Proofs.YtfmookfiakfioaaDoorW.PrintWords Go.Lib Go.Shelf
open Go.Sort hiding Below
set_option linter.unusedVariables false

theorem nameB (s : ByteArray) (w : World) : Calls Tryd.prog 12 #[.string s] w fun e w' => e = .returned (.int .i64 (nameE s)) ∧ Below w.heap.size w w' := by
  obtain ⟨k, hk⟩ := (checkName s).rounds
  exact (PScore.ident_CheckName.calls k s _ w hk).mono fun _ _ ⟨h1, h2⟩ => ⟨h1, h2.below⟩
theorem rnameB (s : ByteArray) (w : World) : Calls Tryd.prog 13 #[.string s] w fun e w' => e = .returned (.int .i64 (nameE s)) ∧ Below w.heap.size w w' := by
  obtain ⟨k, hk⟩ := (rcheckName s).rounds
  exact (POrder.beaconref02_CheckName.calls k s _ w hk).mono fun _ _ ⟨h1, h2⟩ => ⟨h1, h2.below⟩
theorem idB (n : Int) (w : World) : Calls Tryd.prog 10 #[.int .i64 n] w fun e w' => e = .returned (.int .i64 (idE n)) ∧ Below w.heap.size w w' := by
  exact (PScore.ident_CheckId.calls n _ w (checkId n)).mono fun _ _ ⟨h1, h2⟩ => ⟨h1, h2.below⟩
theorem ridB (n : Int) (w : World) : Calls Tryd.prog 11 #[.int .i64 n] w fun e w' => e = .returned (.int .i64 (idE n)) ∧ Below w.heap.size w w' := by
  exact (POrder.beaconref02_CheckId.calls n _ w (rcheckId n)).mono fun _ _ ⟨h1, h2⟩ => ⟨h1, h2.below⟩
theorem rsumB (s : ByteArray) (hs : s.size ≤ 9223372036854775807) (w : World) : Calls Tryd.prog 25 #[.string s] w fun e w' => e = .returned (.int .u64 (sumI s)) ∧ Below w.heap.size w w' := by
  obtain ⟨k, hk⟩ := (rsum s hs).rounds
  exact (POrder.beaconref02_Sum.calls k s _ w hk).mono fun _ _ ⟨h1, h2⟩ => ⟨h1, h2.below⟩
theorem mixB (x : Int) (w : World) : Calls Tryd.prog 26 #[.int .u64 x] w fun e w' => e = .returned (.int .u64 (mixI x)) ∧ Below w.heap.size w w' := by
  exact (PScore.ident_Mix.calls x _ w (mix x)).mono fun _ _ ⟨h1, h2⟩ => ⟨h1, h2.below⟩
theorem rmixB (x : Int) (w : World) : Calls Tryd.prog 27 #[.int .u64 x] w fun e w' => e = .returned (.int .u64 (mixI x)) ∧ Below w.heap.size w w' := by
  exact (POrder.beaconref02_Mix.calls x _ w (rmix x)).mono fun _ _ ⟨h1, h2⟩ => ⟨h1, h2.below⟩
theorem rscoreB (a : Int) (s : ByteArray) (hs : s.size ≤ 9223372036854775807) (w : World) : Calls Tryd.prog 44 #[.int .i64 a, .string s] w fun e w' => e = .returned (.int .u64 (scoreI a (sumI s))) ∧ Below w.heap.size w w' := by
  obtain ⟨k, hk⟩ := (rscore a s hs).rounds
  exact (POrder.beaconref02_score.calls k a s _ w hk).mono fun _ _ ⟨h1, h2⟩ => ⟨h1, h2.below⟩
theorem scoreFB (a : Int) (s : ByteArray) (hs : s.size ≤ 9223372036854775807) (w : World) : Calls Tryd.prog 22 #[.int .i64 a, .string s] w fun e w' => e = .returned (.tuple #[.int .u64 (scoreW a s), .int .i64 (scoreE a s)]) ∧ Below w.heap.size w w' := by
  obtain ⟨k, hk⟩ := (scoreF a s hs).rounds
  exact (PScore.ident_Score.calls k a s _ _ w hk).mono fun _ _ ⟨h1, h2⟩ => ⟨h1, h2.below⟩
theorem rdrawB (A : Option Addr) (c : Nat) (l : List Int) (s : ByteArray) (hs : s.size ≤ 9223372036854775807) (hl : l.length ≤ 17592186043904) (hc : l.length ≤ c) (w : World) (hr : (Kd.int .i64).C w A l.length l) : Calls Tryd.prog 17 #[.slice A l.length c, .string s] w fun e w' => e = .returned (.tuple #[.int .i64 (drawW l s), .int .i64 (drawE l s)]) ∧ Below w.heap.size w w' := by
  obtain ⟨k, hk⟩ := (rdraw l s hs hl).rounds
  exact (PDraw.beaconref02_Draw.calls k A c l s _ _ w hr hc hk).mono fun _ _ ⟨h1, h2⟩ => ⟨h1, h2.below⟩
set_option maxHeartbeats 400000 in
theorem rscoreFB (a : Int) (s : ByteArray) (hs : s.size ≤ 9223372036854775807) (w : World) : Calls Tryd.prog 23 #[.int .i64 a, .string s] w fun e w' => e = .returned (.tuple #[.int .u64 (scoreW a s), .int .i64 (scoreE a s)]) ∧ Below w.heap.size w w' := by
  have HN := rnameB s
  have HI := ridB a
  have HS := Lib.hid (rscoreB a s hs)
  rcases nameE_ways s with h | h
  · rcases idE_ways a with h2 | h2
    · rw [show scoreW a s = scoreI a (sumI s) by unfold scoreW; rw [if_pos ⟨h, h2⟩], show scoreE a s = 0 by unfold scoreE; rw [if_pos h, h2]]
      rw [h] at HN; rw [h2] at HI
      have HN2 := Lib.hid HN
      have HI2 := Lib.hid HI
      clear HN HI h h2
      go_enter Tryd.func23, Tryd.ntmps23
      go_wp2_with (fail)
      refine (HN2.out _).mono ?_
      rintro e w1 ⟨rfl, hb1⟩
      go_wp2_with (fail)
      refine (HI2.out _).mono ?_
      rintro e w2 ⟨rfl, hb2⟩
      go_wp2_with (fail)
      refine (HS.out _).mono ?_
      rintro e w3 ⟨rfl, hb3⟩
      go_wp2
      go_ret2
      exact ⟨rfl, (hb1.trans (hb2.mono hb1.size)).trans (hb3.mono (Nat.le_trans hb1.size hb2.size))⟩
    · rw [show scoreW a s = 0 by unfold scoreW; rw [if_neg (fun x => by rw [h2] at x; exact absurd x.2 (by decide))], show scoreE a s = 20 by unfold scoreE; rw [if_pos h, h2]]
      rw [h] at HN; rw [h2] at HI
      have HN2 := Lib.hid HN
      have HI2 := Lib.hid HI
      clear HN HI h h2
      go_enter Tryd.func23, Tryd.ntmps23
      go_wp2_with (fail)
      refine (HN2.out _).mono ?_
      rintro e w1 ⟨rfl, hb1⟩
      go_wp2_with (fail)
      refine (HI2.out _).mono ?_
      rintro e w2 ⟨rfl, hb2⟩
      go_wp2
      go_ret2
      exact ⟨rfl, hb1.trans (hb2.mono hb1.size)⟩
  · rw [show scoreW a s = 0 by unfold scoreW; rw [if_neg (fun x => by rw [h] at x; exact absurd x.1 (by decide))], show scoreE a s = 21 by unfold scoreE; rw [if_neg (by rw [h]; decide), h]]
    rw [h] at HN
    have HN2 := Lib.hid HN
    clear HN HI h
    go_enter Tryd.func23, Tryd.ntmps23
    go_wp2_with (fail)
    refine (HN2.out _).mono ?_
    rintro e w1 ⟨rfl, hb1⟩
    go_wp2
    go_ret2
    exact ⟨rfl, hb1⟩
theorem own_spot {w : World} {base : Nat} {e : TypeId} {A : Option Addr} {n c : Nat} {xs : List Value} {sz k : Nat} (h : w.ownsRow base e sz (.slice A n c) k xs) : ∀ ad, A = some ad → ad.spot = none := by
  intro ad hA
  rcases h.2 with ⟨hv, _⟩ | ⟨g, cap, cur, hv, _⟩
  · injection hv with h1; rw [hA] at h1; cases h1
  · injection hv with h1; rw [hA] at h1; injection h1 with h1; rw [h1]
theorem rorderB (A : Option Addr) (c : Nat) (l : List Int) (s : ByteArray) (hs : s.size ≤ 9223372036854775807) (hl : l.length ≤ 17592186043904) (hc : l.length ≤ c) (w : World) (hr : (Kd.int .i64).C w A l.length l) :
    Calls Tryd.prog 19 #[.slice A l.length c, .string s] w (OrdPost w (orderL l s) (orderE l s)) := by
  obtain ⟨k, hk⟩ := (rorder l s hs hl).rounds
  refine (POrder.beaconref02_Order.calls k A c l s _ _ w hr hc hk).mono ?_
  rintro e w' ⟨v, rfl, hR, hb⟩
  obtain ⟨A', c', rfl, hc', hC⟩ := Kd.R_reads hR
  obtain ⟨inner, ho⟩ := Kd.R_own hR
  exact ⟨A', c', rfl, hc', hC, hb, own_spot ho⟩
/-- what a copy of a list is -/
def CopPost (w : World) (l : List Int) (e : Ending) (w' : World) : Prop := ∃ A c, e = .returned (.slice A l.length c) ∧ l.length ≤ c ∧ (Kd.int .i64).C w' A l.length l ∧ Below w.heap.size w w' ∧ (∀ ad, A = some ad → ad.spot = none)
theorem copiedB (A : Option Addr) (c : Nat) (l : List Int) (hl : l.length ≤ 17592186043904) (hc : l.length ≤ c) (w : World) (hr : (Kd.int .i64).C w A l.length l) : Calls Tryd.prog 16 #[.slice A l.length c] w (CopPost w l) := by
  have hk : Pcopied.beaconlaw02_copied.f l = some l := by unfold Pcopied.beaconlaw02_copied.f; rw [if_pos (by simp; omega)]; rfl
  refine (Pcopied.beaconlaw02_copied.calls A c l l w hr hc hk).mono ?_
  rintro e w' ⟨v, rfl, hR, hb⟩
  obtain ⟨A', c', rfl, hc', hC⟩ := Kd.R_reads hR
  obtain ⟨inner, ho⟩ := Kd.R_own hR
  exact ⟨A', c', rfl, hc', hC, hb, own_spot ho⟩
theorem same_loop (l : List Int) (hl : l.length ≤ 17592186043904) : ∀ (d i : Nat), i + d = l.length → Ev (fun k => Psame.beaconlaw02_same.l0 k l l (i : Int)) true := by
  intro d
  induction d with
  | zero => intro i hi; exact Ev.step (f := fun _ => some true) (fun k => by simp only [Psame.beaconlaw02_same.l0]; rw [if_neg (by omega)]) (Ev.now _)
  | succ d ih =>
    intro i hi
    have hw : wrap64 ((i : Int) + 1) = ((i + 1 : Nat) : Int) := by unfold wrap64; omega
    refine Ev.step (fun k => ?_) (ih (i + 1) (by omega))
    simp only [Psame.beaconlaw02_same.l0]
    rw [if_pos (by omega), if_pos (by omega), if_pos (by omega), if_pos trivial, hw]
theorem sameB (A A' : Option Addr) (c c' : Nat) (l : List Int) (hl : l.length ≤ 17592186043904) (hc : l.length ≤ c) (hc' : l.length ≤ c') (w : World) (hr : (Kd.int .i64).C w A l.length l) (hr' : (Kd.int .i64).C w A' l.length l) :
    Calls Tryd.prog 20 #[.slice A l.length c, .slice A' l.length c'] w fun e w' => e = .returned (.bool true) ∧ Below w.heap.size w w' := by
  have h : Ev (fun k => Psame.beaconlaw02_same.f k l l) true := by unfold Psame.beaconlaw02_same.f; exact Ev.pos rfl (same_loop l hl l.length 0 (by omega))
  obtain ⟨k, hk⟩ := h.rounds
  exact (Psame.beaconlaw02_same.calls k A c l A' c' l _ w hr hc hr' hc' hk).mono fun _ _ ⟨h1, h2⟩ => ⟨h1, h2.below⟩
theorem in_loop (l : List Int) (x : Int) (hl : l.length ≤ 17592186043904) : ∀ (d i : Nat), i + d = l.length → Ev (fun k => Pin.beaconlaw02_in.l0 k l x (i : Int)) (decide (x ∈ l.drop i)) := by
  intro d
  induction d with
  | zero =>
    intro i hi
    rw [List.drop_eq_nil_of_le (by omega)]
    exact Ev.step (f := fun _ => some false) (fun k => by simp only [Pin.beaconlaw02_in.l0]; rw [if_neg (by omega)]) (Ev.congr (fun _ => by simp) (Ev.now _))
  | succ d ih =>
    intro i hi
    have hw : wrap64 ((i : Int) + 1) = ((i + 1 : Nat) : Int) := by unfold wrap64; omega
    have hil : i < l.length := by omega
    rw [List.drop_eq_getElem_cons hil]
    by_cases he : l[i] = x
    · rw [show decide (x ∈ l[i] :: l.drop (i + 1)) = true by rw [he]; simp]
      refine Ev.step (f := fun _ => some true) (fun k => ?_) (Ev.now _)
      simp only [Pin.beaconlaw02_in.l0]
      rw [if_pos (by omega), if_pos (by omega), rd_at l i hil, if_pos he]
    · rw [show decide (x ∈ l[i] :: l.drop (i + 1)) = decide (x ∈ l.drop (i + 1)) by
        rw [decide_eq_decide, List.mem_cons]; exact ⟨fun h => h.resolve_left (fun e => he e.symm), .inr⟩]
      refine Ev.step (fun k => ?_) (ih (i + 1) (by omega))
      simp only [Pin.beaconlaw02_in.l0]
      rw [if_pos (by omega), if_pos (by omega), rd_at l i hil, if_neg he, hw]
theorem inB (A : Option Addr) (c : Nat) (l : List Int) (x : Int) (hl : l.length ≤ 17592186043904) (hc : l.length ≤ c) (w : World) (hr : (Kd.int .i64).C w A l.length l) :
    Calls Tryd.prog 21 #[.slice A l.length c, .int .i64 x] w fun e w' => e = .returned (.bool (decide (x ∈ l))) ∧ Below w.heap.size w w' := by
  have h : Ev (fun k => Pin.beaconlaw02_in.f k l x) (decide (x ∈ l)) := by unfold Pin.beaconlaw02_in.f; simpa using in_loop l x hl l.length 0 (by omega)
  obtain ⟨k, hk⟩ := h.rounds
  exact (Pin.beaconlaw02_in.calls k A c l x _ w hr hc hk).mono fun _ _ ⟨h1, h2⟩ => ⟨h1, h2.below⟩
/-- an argument's list -/
theorem irow_kd {w : World} {B : Nat} {A : Option Addr} {n : Nat} {f : Nat → Int} (h : IRow .i64 w B A n f) (hn : n ≤ 9223372036854775807) : (Kd.int .i64).C w A ((List.range n).map f).length ((List.range n).map f) := by
  refine Kd.C_of_reads (enc := Value.int .i64) (d := 0) ⟨rfl, by simpa using hn, fun hp => ?_⟩
  have hp2 : 0 < n := by simpa using hp
  obtain ⟨b, off, rfl, _, hc⟩ := h hp2
  refine ⟨_, rfl, fun j hj => ?_⟩
  have hj2 : j < n := by simpa using hj
  have ha : (⟨b, off, none⟩ : Addr).add j = ⟨b, off + j, none⟩ := by unfold Addr.add; by_cases h : j = 0 <;> simp [h]
  rw [ha, hc j hj2, List.getD_eq_getElem?_getD, range_get f hj2]; rfl

end Go.Proofs.YtfmookfiakfioaaDoor
