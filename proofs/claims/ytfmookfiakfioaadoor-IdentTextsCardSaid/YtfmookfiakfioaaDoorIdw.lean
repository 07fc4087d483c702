/- The walks of the program's checked, Order and Draw, and of what they call with function values. Conditions: the slice reads as the list, of fewer than 2^44 numbers; the text is below 2^63 bytes. -/
import Derived.Test.YtfmookfiakfioaaDoorIdd
import Derived.Test.YtfmookfiakfioaaDoorShelf
import Derived.Test.YtfmookfiakfioaaDoorMap
import Derived.Test.YtfmookfiakfioaaDoorRows
import Derived.Deep.QuietTactic
import Derived.BigQuiet
import Derived.WalkSpells
import Derived.Lib.Hide
import Derived.OneCell
import Derived.Lib.RowBridge
namespace Go.Proofs.YtfmookfiakfioaaDoor
open Go.RowKit Go.Mem Idn Go.Proofs.YtfmookfiakfioaaDoorW.PrintWords Go.Sort Go.Lib

theorem below_drewN {B : Nat} {a w : World} (h : Below B a w) (n : Nat) : Below B a (w.drewN n) := ⟨h.os, h.tape, h.output, h.size, h.block⟩
theorem ret_int {k : IntKind} {a b : Int} (h : a = b) : Ending.returned (.int k a) = .returned (.int k b) := by rw [h]
theorem ret_ii {a b c d : Int} (h : a = b) (g : c = d) : Ending.returned (.tuple #[.int .i64 a, .int .i64 c]) = .returned (.tuple #[.int .i64 b, .int .i64 d]) := by rw [h, g]
/-- a list that is read, cell by cell -/
theorem kd_cells {w : World} {A : Option Addr} {n : Nat} {l : List Int} (h : (Kd.int .i64).C w A n l) (hn : 0 < n) : ∃ b off, A = some ⟨b, off, none⟩ ∧ b < w.heap.size ∧ ∀ i, i < n → w.cell? ⟨b, off + i, none⟩ = some (.int .i64 (rd l (i : Int))) := by
  obtain ⟨ad, rfl, h0⟩ := Kd.at_int h 0 (by omega) (by omega)
  obtain ⟨b, off, spot⟩ := ad
  have hs := World.cell?_spot h0
  have hb := World.block_lt_of_cell? w _ h0
  have hspot : spot = none := by simpa [Addr.add] using hs
  subst hspot
  refine ⟨b, off, rfl, by simpa [Addr.add] using hb, fun i hi => ?_⟩
  obtain ⟨ad2, e, h1⟩ := Kd.at_int h i (by omega) (by omega)
  obtain rfl := Option.some.inj e
  rw [Int.toNat_natCast] at h1
  unfold Addr.add at h1
  by_cases h2 : i = 0
  · simpa [h2] using h1
  · simpa [h2] using h1
set_option maxHeartbeats 400000 in
theorem pchk_any (x : Int) (w : World) : Calls Tryd.prog 49 #[.int .i64 x] w fun e w' => e = .returned (.bool (decide (idE x ≠ 0))) ∧ ∃ q, w' = w.drewN q := by
  rcases idE_ways x with hx | hx
  · have H := Lib.hid hx
    clear hx
    go_enter Tryd.func49, Tryd.ntmps49
    go_wp2_with (go_at_call 10; refine (PScore.ident_CheckId.calls x 0 _ (by rw [checkId, H.out])).mono ?_; rintro e w' ⟨rfl, ⟨q, rfl⟩⟩)
    go_ret
    exact ⟨by rw [H.out]; rfl, q, rfl⟩
  · have H := Lib.hid hx
    clear hx
    go_enter Tryd.func49, Tryd.ntmps49
    go_wp2_with (go_at_call 10; refine (PScore.ident_CheckId.calls x 20 _ (by rw [checkId, H.out])).mono ?_; rintro e w' ⟨rfl, ⟨q, rfl⟩⟩)
    go_ret
    exact ⟨by rw [H.out]; rfl, q, rfl⟩
theorem contains_any (A : Option Addr) (n c : Nat) (l : List Int) (w : World) (hl : (Kd.int .i64).C w A n l) :
    Calls Tryd.prog 48 #[.slice A n c, .func (.func 49) #[] #[]] w fun e w' => e = .returned (.bool (l.any fun x => decide (idE x ≠ 0))) ∧ ∃ q, w' = w.drewN q := by
  have hlen := Kd.C_len hl
  by_cases hn : n = 0
  · subst hn
    obtain rfl : l = [] := List.eq_nil_of_length_eq_zero hlen
    exact (Tryd.slices_ContainsFunc_empty (α := Int) A c _ w).mono fun e w' ⟨h1, h2⟩ => ⟨h1, 0, h2⟩
  · obtain ⟨b, off, rfl, _, hc⟩ := kd_cells hl (by omega)
    have h := Tryd.slices_ContainsFunc (Value.int .i64) (fun x => decide (idE x ≠ 0)) 49 #[] (enters_of Tryd.func49 (by kernel_rfl) rfl) b off n c l w
      (fun W x _ => by unfold FnGives; exact (pchk_any x W)) (by omega) (Kd.C_max hl) (fun j hj => by
        rw [hc j (by omega), rd_at l j hj]; congr 2; simp [hj])
    rw [List.take_of_length_le (by omega)] at h
    exact h
/-- the routers seen so far, as the map holds them -/
def Seen (l : List Int) (k : Nat) (es : Array MapEntry) : Prop :=
  (∀ x ∈ es.toList, ∃ i, i < k ∧ x.key = .int .i64 (rd l (i : Int)) ∧ x.val = .bool true) ∧ (∀ i, i < k → ∃ x ∈ es.toList, x.key = .int .i64 (rd l (i : Int)))
theorem Seen.start (l : List Int) : Seen l 0 #[] := ⟨fun x hx => by simp at hx, fun i hi => absurd hi (by omega)⟩
theorem Seen.push {l : List Int} {k : Nat} {es : Array MapEntry} (h : Seen l k es) (c : Nat) : Seen l (k + 1) (es.push { key := .int .i64 (rd l (k : Int)), val := .bool true, born := c }) := by
  constructor
  · intro x hx
    rw [Array.toList_push, List.mem_append] at hx
    rcases hx with hx | hx
    · obtain ⟨i, hi, h1, h2⟩ := h.1 x hx
      exact ⟨i, by omega, h1, h2⟩
    · simp at hx; subst hx; exact ⟨k, by omega, rfl, rfl⟩
  · intro i hi
    by_cases hik : i = k
    · subst hik; exact ⟨_, by rw [Array.toList_push, List.mem_append]; exact .inr (by simp; rfl), rfl⟩
    · obtain ⟨x, hx, h2⟩ := h.2 i (by omega)
      exact ⟨x, by rw [Array.toList_push, List.mem_append]; exact .inl hx, h2⟩
theorem Seen.find {l : List Int} {k : Nat} {es : Array MapEntry} (h : Seen l k es) (y : Int) :
    (Instr.findNow (.int .i64) (.int .i64 y) es.toList 0 = some none ∧ ∀ i, i < k → rd l (i : Int) ≠ y) ∨ (∃ j, Instr.findNow (.int .i64) (.int .i64 y) es.toList 0 = some (some (j, .bool true)) ∧ ∃ i, i < k ∧ rd l (i : Int) = y) := by
  have hk : MapKept.IsKey (.int .i64) (.int .i64 y) := by simp [MapKept.IsKey]
  rcases MapKept.findNow_spec hk es.toList 0 (fun x hx => by obtain ⟨i, _, e, _⟩ := h.1 x hx; rw [e]; simp [MapKept.IsKey]) with ⟨h1, h2⟩ | ⟨j, e, h1, h2, h3⟩
  · refine .inl ⟨h1, fun i hi he => ?_⟩
    obtain ⟨x, hx, e⟩ := h.2 i hi
    exact h2 x hx (by rw [e, he])
  · obtain ⟨i, hi, e1, e2⟩ := h.1 e (List.mem_of_getElem? h2)
    refine .inr ⟨0 + j, by rw [h1, e2], i, hi, ?_⟩
    rw [h3] at e1
    injection e1 with _ e1
    exact e1.symm
theorem setMap_at (w : World) (b : Nat) (o o' : Obj) (h : w.heap[b]? = some o') : (setMap w b o).heap[b]? = some o := by
  have hb : b < w.heap.size := by
    rcases Nat.lt_or_ge b w.heap.size with h2 | h2
    · exact h2
    · rw [Array.getElem?_eq_none h2] at h; cases h
  show (w.heap.setIfInBounds b o)[b]? = _
  rw [Array.getElem?_setIfInBounds]; simp [hb]
theorem setMap_below {B b : Nat} {a w : World} (h : Below B a w) (hb : B ≤ b) (o : Obj) : Below B a (setMap w b o) :=
  ⟨h.os, h.tape, h.output, by show a.heap.size ≤ (w.heap.setIfInBounds b o).size; rw [Array.size_setIfInBounds]; exact h.size, fun i hi => by
    show (w.heap.setIfInBounds b o)[i]? = _
    rw [Array.getElem?_setIfInBounds, if_neg (by omega)]; exact h.block i hi⟩
set_option maxHeartbeats 1600000 in
theorem checked_any (A : Option Addr) (n c : Nat) (l : List Int) (w : World) (hl : (Kd.int .i64).C w A n l) :
    Calls Tryd.prog 37 #[.slice A n c] w fun e w' => e = .returned (.int .i64 (listE l)) ∧ Below w.heap.size w w' := by
  have hlen := Kd.C_len hl
  have hmax := Kd.C_max hl
  cases hany : l.any fun x => decide (idE x ≠ 0) with
  | true =>
    have H20 : Hid (listE l = 20) := Lib.hid (by
      unfold listE
      rw [if_neg]
      rw [List.all_eq_true]
      intro h
      obtain ⟨x, hx, h2⟩ := List.any_eq_true.1 hany
      exact (of_decide_eq_true h2) (of_decide_eq_true (h x hx)))
    have hcon := contains_any A n c l w hl
    rw [hany] at hcon
    clear hany
    go_enter Tryd.func37, Tryd.ntmps37
    go_wp2_with (go_at_call 48; refine hcon.mono ?_; rintro e w' ⟨rfl, q, rfl⟩)
    go_ret
    exact ⟨ret_int H20.out.symm, below_drewN (Below.refl _ _) q⟩
  | false =>
    have hall : l.all (fun x => decide (idE x = 0)) = true := by
      rw [List.all_eq_true]
      intro x hx
      have := List.any_eq_false.1 hany x hx
      simpa using this
    have HL : Hid (listE l = if l.Nodup then 0 else 72) := Lib.hid (by unfold listE; rw [if_pos hall])
    have hcon := contains_any A n c l w hl
    rw [hany] at hcon
    clear hany hall
    have hmm := @run_makeMap Tryd.prog
    go_enter Tryd.func37, Tryd.ntmps37
    go_wp2_with (go_at_call 48; refine hcon.mono ?_; rintro e w' ⟨rfl, q, rfl⟩)
    go_wp2
    go_loopw [11] (fun iv wr => ∃ (k : Nat) (es : Array MapEntry), k ≤ n ∧ iv = .int .i64 k ∧ wr.heap[w.heap.size]? = some (.map es k) ∧ Hid (Seen l k es) ∧ Hid (∀ i j : Nat, i < j → j < k → rd l (i : Int) ≠ rd l (j : Int)) ∧ Below w.heap.size w wr) (fun iv _ => n - (intOf iv).toNat)
    case atStart => exact ⟨0, #[], Nat.zero_le _, rfl, heap_alloc_new (w.drewN q) _, Lib.hid (Seen.start l), Lib.hid (fun i j h1 h2 => absurd h2 (by omega)), (below_drewN (Below.refl _ _) q).alloc (Nat.le_refl _) _⟩
    case round =>
      obtain ⟨k, es, hk, rfl, hm, HS, HN, hb⟩ := hrel
      by_cases hkn : k < n
      · obtain ⟨b, off, rfl, hbl, hc⟩ := kd_cells hl (by omega)
        have hck : wr.cell? ⟨b, off + k, none⟩ = some (.int .i64 (rd l (k : Int))) := (hb.cell hbl).trans (hc k hkn)
        clear hc hl
        rcases HS.out.find (rd l (k : Int)) with ⟨hf, hne⟩ | ⟨j, hf, i, hi, he⟩
        · have hlk := run_lookup_known (P := Tryd.prog) (w := wr) (z := .bool false) Tryd.underlying63 Tryd.underlying3 hm (run_checkKey_int Tryd.underlying3 es.isEmpty 9999 (rd l (k : Int))) (by kernel_rfl) hf
          have hup := run_insert_known (P := Tryd.prog) (w := wr) (v := .bool true) Tryd.underlying63 Tryd.underlying3 hm (run_checkKey_int Tryd.underlying3 false 9999 (rd l (k : Int))) hf
          have HS2 := Lib.hid (HS.out.push k)
          have HN2 : Hid (∀ i j : Nat, i < j → j < k + 1 → rd l (i : Int) ≠ rd l (j : Int)) := Lib.hid (fun i j h1 h2 => by
            by_cases hj : j = k
            · subst hj; exact hne i h1
            · exact HN.out i j h1 (by omega))
          have HM := Lib.hid (setMap_at wr _ (.map (es.push { key := .int .i64 (rd l (k : Int)), val := .bool true, born := k }) (k + 1)) _ hm)
          have HB := Lib.hid (setMap_below hb (Nat.le_refl _) (.map (es.push { key := .int .i64 (rd l (k : Int)), val := .bool true, born := k }) (k + 1)))
          clear hf hne hm hb
          generalize rd l (k : Int) = y at *
          go_wp2
          go_roundw
          case rel => exact ⟨k + 1, _, by omega, by go_num, HM.out, HS2, HN2, HB.out⟩
          case measure => simp [intOf]; omega
        · have hlk := run_lookup_known (P := Tryd.prog) (w := wr) (z := .bool false) Tryd.underlying63 Tryd.underlying3 hm (run_checkKey_int Tryd.underlying3 es.isEmpty 9999 (rd l (k : Int))) (by kernel_rfl) hf
          have H72 : Hid (listE l = 72) := Lib.hid (by
            rw [HL.out, if_neg]
            rw [nodup_iff, Classical.not_not]
            refine ⟨i, k, Nat.zero_le _, by omega, hi, ?_⟩
            rw [rd_at l i (by omega), rd_at l k (by omega)] at he
            rw [List.getElem?_eq_getElem (by omega), List.getElem?_eq_getElem (by omega), he])
          clear hf hm he
          generalize rd l (k : Int) = y at *
          go_wp2
          go_ret
          exact ⟨ret_int H72.out.symm, hb⟩
      · obtain rfl : k = n := by omega
        have H0 : Hid (listE l = 0) := Lib.hid (by
          rw [HL.out, if_pos]
          rw [nodup_iff]
          rintro ⟨t, s, _, h2, h3, h4⟩
          rw [List.getElem?_eq_getElem (by omega), List.getElem?_eq_getElem h2] at h4
          refine HN.out t s h3 (by omega) ?_
          rw [rd_at l t (by omega), rd_at l s h2]
          exact Option.some.inj h4)
        clear hm hl
        go_wp2
        go_ret
        exact ⟨ret_int H0.out.symm, hb⟩

end Go.Proofs.YtfmookfiakfioaaDoor
