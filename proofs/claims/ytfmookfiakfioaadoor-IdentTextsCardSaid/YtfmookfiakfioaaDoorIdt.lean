/- The walks of the program's Draw and Text, and that the layer answers at all. Conditions: as Idv's; the library's table of powers of ten lies as its text lays it. -/
import Derived.Test.YtfmookfiakfioaaDoorIdv
import Derived.Lib.AppendIntMem
import Derived.Lib.ItoaLen
namespace Go.Proofs.YtfmookfiakfioaaDoor
open Go.RowKit Go.Mem Idn Go.Proofs.YtfmookfiakfioaaDoorW.PrintWords Go.Lib Go.Shelf
open Go.Sort hiding Below
set_option linter.unusedVariables false

namespace Idn
theorem drawW_of {l : List Int} {s : ByteArray} (h : orderE l s = 0) (h2 : l ≠ []) : drawW l s = drawI (sumI s) l ∧ drawE l s = 0 ∧ orderL l s = ordL (sumI s) l := by
  unfold orderE at h
  split at h
  · rename_i hn
    refine ⟨by unfold drawW; rw [if_pos ⟨hn, h, h2⟩], by unfold drawE orderE; rw [if_pos hn, if_pos h, if_neg h2], by unfold orderL; rw [if_pos ⟨hn, h⟩]⟩
  · rename_i hn; exact absurd h hn
theorem drawW_no {l : List Int} {s : ByteArray} (h : orderE l s ≠ 0) : drawW l s = 0 ∧ drawE l s = orderE l s ∧ orderL l s = [] := by
  have hx : ¬ (nameE s = 0 ∧ listE l = 0) := fun ⟨h1, h2⟩ => h (by unfold orderE; rw [if_pos h1, h2])
  exact ⟨by unfold drawW; rw [if_neg (fun x => hx ⟨x.1, x.2.1⟩)], by unfold drawE; rw [if_neg h], by unfold orderL; rw [if_neg hx]⟩
theorem drawW_nil {s : ByteArray} (h : orderE [] s = 0) : drawW [] s = 0 ∧ drawE [] s = 4 ∧ orderL [] s = [] := by
  refine ⟨by unfold drawW; rw [if_neg (fun x => x.2.2 rfl)], by unfold drawE; rw [if_pos h, if_pos rfl], ?_⟩
  unfold orderL; split
  · exact (ordL_perm _ _).eq_nil
  · rfl
theorem hd0 : ∀ (r : List Int) (h : 0 < r.length), r[0] = r.headD 0
  | [], h => absurd h (by simp)
  | a :: r, _ => rfl
theorem orderE_ways (l : List Int) (s : ByteArray) : orderE l s = 0 ∨ orderE l s ≠ 0 := by omega
def itB (n : Int) : ByteArray := ⟨(Lib.itoa n).toArray⟩
/-- a number's text -/
def textB (n : Int) : ByteArray := if idE n = 0 then ⟨#[110]⟩ ++ itB n else ⟨#[]⟩
end Idn
set_option maxRecDepth 100000 in
set_option maxHeartbeats 1600000 in
theorem draw_any (A : Option Addr) (n c : Nat) (l : List Int) (s : ByteArray) (w : World) (hl : (Kd.int .i64).C w A n l) (hA : ∀ ad, A = some ad → ad.spot = none) (hn : n ≤ 17592186043904) (hs : s.size ≤ 9223372036854775807) :
    Calls Tryd.prog 15 #[.slice A n c, .string s] w fun e w' => e = .returned (.tuple #[.int .i64 (drawW l s), .int .i64 (drawE l s)]) ∧ Below w.heap.size w w' := by
  have HO := Lib.hid (order_any A n c l s w hl hA hn hs)
  clear hl hA
  rcases orderE_ways l s with h | h
  · by_cases h2 : l = []
    · subst h2
      obtain ⟨e1, e2, e3⟩ := drawW_nil h
      rw [e1, e2]
      rw [e3, h] at HO
      clear e1 e2 e3 h
      go_enter Tryd.func15, Tryd.ntmps15
      go_wp2_with (fail)
      refine HO.out.mono ?_
      rintro e w' ⟨A', c', rfl, hc, hC, hb, _⟩
      clear hC
      go_wp2
      go_ret2
      exact ⟨rfl, hb⟩
    · obtain ⟨e1, e2, e3⟩ := drawW_of h h2
      rw [e1, e2]
      rw [e3, h] at HO
      have hlen : 0 < (ordL (sumI s) l).length := by rw [ordL_len]; exact List.length_pos_iff.2 h2
      have hhd : Hid (rd (ordL (sumI s) l) ((0 : Nat) : Int) = drawI (sumI s) l) := Lib.hid (by
        rw [rd_at _ 0 hlen]
        exact hd0 _ hlen)
      clear e1 e2 e3 h h2
      generalize ordL (sumI s) l = r at *
      generalize drawI (sumI s) l = d at *
      cases r with
      | nil => exact absurd hlen (by simp)
      | cons x t =>
        clear hlen
        have hp0 : (0 : Int) < (t.length : Int) + 1 := by omega
        have hp1 : ((t.length : Int) + 1 == 0) = false := by rw [beq_eq_false_iff_ne]; omega
        go_enter Tryd.func15, Tryd.ntmps15
        go_wp2_with (fail)
        refine HO.out.mono ?_
        rintro e w' ⟨A', c', rfl, hc, hC, hb, _⟩
        obtain ⟨b, off, rfl, _, hce⟩ := kd_cells hC (by simp)
        have hck := hce 0 (by simp)
        rw [hhd.out, Nat.add_zero] at hck
        clear hce hC
        go_wp2
        go_ret2
        exact ⟨rfl, hb⟩
  · obtain ⟨e1, e2, e3⟩ := drawW_no h
    rw [e1, e2]
    rw [e3] at HO
    have hne : (orderE l s != 0) = true := by rw [bne_iff_ne]; exact h
    clear e1 e2 e3 h
    generalize orderE l s = z at *
    go_enter Tryd.func15, Tryd.ntmps15
    go_wp2_with (fail)
    refine HO.out.mono ?_
    rintro e w' ⟨A', c', rfl, hc, hC, hb, _⟩
    clear hC
    go_wp2
    go_ret2
    exact ⟨rfl, hb⟩
def Pow10 (w : World) : Prop := Lib.TabIs Tryd.prog w "internal/strconv.uint64pow10" .u64 Lib.pow10Tab
theorem Pow10.below {w w' : World} (h : Pow10 w) (hb : Below w.heap.size w w') : Pow10 w' := Lib.tabBelow_of_tabIs h w' hb
theorem itoa_any (n : Int) (h0 : -9223372036854775808 ≤ n) (h1 : n ≤ 9223372036854775807) (w : World) (ht : Pow10 w) :
    Calls Tryd.prog 45 #[.int .i64 n] w fun e w' => e = .returned (.string (itB n)) ∧ Below w.heap.size w w' :=
  (Tryd.strconv_Itoa n h0 h1 w ht).mono fun e w' ⟨he, k, os, hw⟩ => ⟨he, by rw [hw]; exact Lib.below_grow _ w (Nat.le_refl _) k os⟩
theorem itB_len (n : Int) (h0 : -9223372036854775808 ≤ n) (h1 : n ≤ 9223372036854775807) : (itB n).size ≤ 21 := by
  have := Lib.itoa_length_le n h0 h1
  unfold itB; show (Lib.itoa n).toArray.size ≤ 21; simpa using this
theorem ret_si {a b : ByteArray} {c d : Int} (h : a = b) (g : c = d) : Ending.returned (.tuple #[.string a, .int .i64 c]) = .returned (.tuple #[.string b, .int .i64 d]) := by rw [h, g]
set_option maxHeartbeats 800000 in
theorem id_any (n : Int) (w : World) : Calls Tryd.prog 10 #[.int .i64 n] w fun e w' => e = .returned (.int .i64 (idE n)) ∧ ∃ q, w' = w.drewN q :=
  (PScore.ident_CheckId.calls n _ w (checkId n)).mono fun e w' ⟨h1, h2⟩ => ⟨h1, h2.out⟩
set_option maxHeartbeats 800000 in
theorem text_any (n : Int) (h0 : -9223372036854775808 ≤ n) (h1 : n ≤ 9223372036854775807) (w : World) (hp : Pow10 w) :
    Calls Tryd.prog 28 #[.int .i64 n] w fun e w' => e = .returned (.tuple #[.string (textB n), .int .i64 (idE n)]) ∧ Below w.heap.size w w' := by
  have HI := id_any n w
  have hz := itB_len n h0 h1
  have HP := Lib.hid hp
  clear hp
  rcases idE_ways n with h | h
  · have HT : Hid (textB n = ⟨#[110]⟩ ++ itB n) := Lib.hid (by unfold textB; rw [if_pos h])
    rw [h] at HI
    rw [h]
    have HI2 := Lib.hid HI
    clear h HI
    rw [HT.out]
    go_enter Tryd.func28, Tryd.ntmps28
    go_wp2_with (fail)
    refine HI2.out.mono ?_
    rintro e w' ⟨rfl, q1, rfl⟩
    go_wp2_with (fail)
    refine (itoa_any n h0 h1 _ (HP.out.below (below_drewN (Below.refl _ _) q1))).mono ?_
    rintro e w1 ⟨rfl, hb1⟩
    go_wp2
    go_ret2
    exact ⟨rfl, (below_drewN (Below.refl w.heap.size w) q1).trans hb1⟩
  · have HT : Hid (textB n = ⟨#[]⟩) := Lib.hid (by unfold textB; rw [if_neg (by rw [h]; decide)])
    rw [h] at HI
    rw [h]
    have HI2 := Lib.hid HI
    clear h HI
    rw [HT.out]
    go_enter Tryd.func28, Tryd.ntmps28
    go_wp2_with (fail)
    refine HI2.out.mono ?_
    rintro e w' ⟨rfl, q1, rfl⟩
    go_wp2
    go_ret2
    exact ⟨rfl, below_drewN (Below.refl w.heap.size w) q1⟩
theorem draw49 : drawE [4, 9] ⟨#[97]⟩ = 0 ∧ (drawW [4, 9] ⟨#[97]⟩ = 4 ∨ drawW [4, 9] ⟨#[97]⟩ = 9) := by
  have h : orderE [4, 9] ⟨#[97]⟩ = 0 := by decide +kernel
  obtain ⟨e1, e2, _⟩ := drawW_of h (by simp)
  refine ⟨e2, ?_⟩
  rw [e1]
  have := (drawI_min (z := sumI ⟨#[97]⟩) (l := [4, 9]) (by simp)).1
  simpa using this
theorem text17 : textB 17 = ⟨#[110, 49, 55]⟩ := by decide +kernel
theorem row49 (w : World) : (Kd.int .i64).C (w.alloc (.cells #[.int .i64 4, .int .i64 9] 3)) (some ⟨w.heap.size, 0, none⟩) 2 [4, 9] := by
  refine Kd.C_of_reads (enc := Value.int .i64) (d := 0) ⟨rfl, by omega, fun _ => ⟨_, rfl, fun j hj => ?_⟩⟩
  have hj2 : j = 0 ∨ j = 1 := by omega
  rcases hj2 with rfl | rfl <;> simp [Addr.add, go_sem]
set_option maxHeartbeats 1600000 in
theorem awake_any (w : World) (hp : Pow10 w) : Calls Tryd.prog 14 #[] w fun e w' => e = .returned (.bool true) ∧ Below w.heap.size w w' := by
  have HT := fun w' hp' => text_any 17 (by decide) (by decide) w' hp'
  rw [text17, show idE 17 = 0 from rfl] at HT
  have HT2 := Lib.hid HT
  have HD := fun w' => draw_any (some ⟨w'.heap.size, 0, none⟩) 2 2 [4, 9] ⟨#[97]⟩ _ (row49 w') (fun ad h => by cases h; rfl) (by decide) (by decide)
  obtain ⟨d1, d2⟩ := draw49
  rw [d1] at HD
  have HP := Lib.hid hp
  clear HT d1 hp
  rcases d2 with d2 | d2
  all_goals
    rw [d2] at HD
    have HD2 := Lib.hid HD
    clear HD d2
    go_enter Tryd.func14, Tryd.ntmps14
    go_wp2_with (fail)
    refine (HT2.out _ HP.out).mono ?_
    rintro e w1 ⟨rfl, hb1⟩
    go_wp2_with (fail)
    refine (HD2.out _).mono ?_
    rintro e w2 ⟨rfl, hb2⟩
    go_wp2
    go_ret
    exact ⟨rfl, (hb1.alloc hb1.size _).trans (hb2.mono (by have := hb1.size; simp; omega))⟩

end Go.Proofs.YtfmookfiakfioaaDoor
