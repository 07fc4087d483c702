/- The walks of Line, program and reference. Conditions: as Sln's. -/
import Derived.Test.YtjcgachdnkdamaaDoorSln
namespace Go.Proofs.YtjcgachdnkdamaaDoor
open Go.RowKit Flt Go.Mem

def sumV (n a i : Int) (l m h e : Nat) : Value := .agg #[.int .i64 n, .int .i64 a, .int .i64 i, .float .f64 l, .float .f64 m, .float .f64 h, .float .f64 e]
def lineS (n a i : Int) (l m h e : Nat) : ByteArray := ⟨#[110, 32]⟩ ++ itoaB n ++ ⟨#[44, 32, 110, 97, 110, 32]⟩ ++ itoaB a ++ ⟨#[44, 32, 105, 110, 102, 32]⟩ ++ itoaB i ++ ⟨#[44, 32, 108, 101, 97, 115, 116, 32]⟩ ++ textS l ++ ⟨#[44, 32, 109, 105, 100, 100, 108, 101, 32]⟩ ++ textS m ++ ⟨#[44, 32, 109, 111, 115, 116, 32]⟩ ++ textS h ++ ⟨#[44, 32, 109, 101, 97, 110, 32]⟩ ++ textS e
theorem keep_cell {w w' : World} {a : Addr} {v : Value} (h : w.cell? a = some v) (hb : Below w.heap.size w w') : w'.cell? a = some v := by
  rw [hb.cell (World.block_lt_of_cell? w _ h)]; exact h
theorem keep_below {w0 w w' : World} (h : Below w0.heap.size w0 w) (hb : Below w.heap.size w w') : Below w0.heap.size w0 w' := h.trans (hb.mono h.size)
theorem heldB {w0 w : World} {b0 b1 b2 b3 b4 b5 b6 : Addr} {v0 v1 v2 v3 v4 v5 v6 : Value} (h : w.cell? b0 = some v0 ∧ w.cell? b1 = some v1 ∧ w.cell? b2 = some v2 ∧ w.cell? b3 = some v3 ∧ w.cell? b4 = some v4 ∧ w.cell? b5 = some v5 ∧ w.cell? b6 = some v6 ∧ Below w0.heap.size w0 w) : Below w0.heap.size w0 w := h.2.2.2.2.2.2.2
theorem held_keep {w0 w w' : World} {b0 b1 b2 b3 b4 b5 b6 : Addr} {v0 v1 v2 v3 v4 v5 v6 : Value} (h : w.cell? b0 = some v0 ∧ w.cell? b1 = some v1 ∧ w.cell? b2 = some v2 ∧ w.cell? b3 = some v3 ∧ w.cell? b4 = some v4 ∧ w.cell? b5 = some v5 ∧ w.cell? b6 = some v6 ∧ Below w0.heap.size w0 w) (hb : Below w.heap.size w w') :
    w'.cell? b0 = some v0 ∧ w'.cell? b1 = some v1 ∧ w'.cell? b2 = some v2 ∧ w'.cell? b3 = some v3 ∧ w'.cell? b4 = some v4 ∧ w'.cell? b5 = some v5 ∧ w'.cell? b6 = some v6 ∧ Below w0.heap.size w0 w' :=
  ⟨keep_cell h.1 hb, keep_cell h.2.1 hb, keep_cell h.2.2.1 hb, keep_cell h.2.2.2.1 hb, keep_cell h.2.2.2.2.1 hb, keep_cell h.2.2.2.2.2.1 hb, keep_cell h.2.2.2.2.2.2.1 hb, keep_below h.2.2.2.2.2.2.2 hb⟩
theorem itoaB_len (n : Int) (h0 : -9223372036854775808 ≤ n) (h1 : n ≤ 9223372036854775807) : (itoaB n).size ≤ 21 := by
  have := Lib.itoa_length_le n h0 h1
  unfold itoaB; rw [ba_mk_size]; exact this
theorem textS_len (f : Nat) : (textS f).size ≤ 40 := by
  unfold textS
  split
  · decide
  · split
    · decide
    · split
      · decide
      · split
        · decide
        · split
          · decide
          · rename_i h1 h2 h3 h4 h5
            have hr := small_of (by simpa using h1) (by simpa using h4) (by simpa using h5)
            obtain ⟨_, _, _, n4, n5⟩ := nS_ok hr
            unfold numS
            have z := (dec_len3 ((nS f).natAbs % 1000) (by omega)).2.1
            have e : itoaB (((nS f).natAbs % 1000 : Nat) : Int) = ⟨(Lib.decDigits ((nS f).natAbs % 1000)).toArray⟩ := by unfold itoaB; rw [Lib.itoa_nonneg]
            have hq := itoaB_len (((nS f).natAbs / 1000 : Nat) : Int) (by omega) (by omega)
            have hs : (if nS f < 0 then (⟨#[45]⟩ : ByteArray) else ⟨#[]⟩).size ≤ 1 := by split <;> decide
            rw [e, padB_eq _ z]
            have hp : (⟨(padL (Lib.decDigits ((nS f).natAbs % 1000))).toArray⟩ : ByteArray).size ≤ 3 := by
              rw [ba_mk_size]; unfold padL; rw [List.length_append, List.length_replicate]; omega
            have h46 : (⟨#[46]⟩ : ByteArray).size = 1 := by decide
            rw [ByteArray.size_append, ByteArray.size_append, ByteArray.size_append, h46]
            omega
set_option maxRecDepth 100000 in
set_option maxHeartbeats 6400000 in
theorem line_any (n a i : Int) (l m h e : Nat) (n0 : -9223372036854775808 ≤ n) (n1 : n ≤ 9223372036854775807) (a0 : -9223372036854775808 ≤ a) (a1 : a ≤ 9223372036854775807) (i0 : -9223372036854775808 ≤ i) (i1 : i ≤ 9223372036854775807)
    (hl : l < 18446744073709551616) (hm : m < 18446744073709551616) (hh : h < 18446744073709551616) (he : e < 18446744073709551616) (w : World) (hp : Pow10 w) : Calls Tryd.prog 14 #[sumV n a i l m h e] w fun z w' => z = .returned (.string (lineS n a i l m h e)) ∧ Below w.heap.size w w' := by
  have s1 := itoaB_len n n0 n1
  have s2 := itoaB_len a a0 a1
  have s3 := itoaB_len i i0 i1
  have t1 := textS_len l
  have t2 := textS_len m
  have t3 := textS_len h
  have t4 := textS_len e
  have z0 : ¬ 9223372036854775807 < 2 + (itoaB n).size := by omega
  have z1 : ¬ 9223372036854775807 < 2 + (itoaB n).size + 6 := by omega
  have z2 : ¬ 9223372036854775807 < 2 + (itoaB n).size + 6 + (itoaB a).size := by omega
  have z3 : ¬ 9223372036854775807 < 2 + (itoaB n).size + 6 + (itoaB a).size + 6 := by omega
  have z4 : ¬ 9223372036854775807 < 2 + (itoaB n).size + 6 + (itoaB a).size + 6 + (itoaB i).size := by omega
  have z5 : ¬ 9223372036854775807 < 2 + (itoaB n).size + 6 + (itoaB a).size + 6 + (itoaB i).size + 8 := by omega
  have z6 : ¬ 9223372036854775807 < 2 + (itoaB n).size + 6 + (itoaB a).size + 6 + (itoaB i).size + 8 + (textS l).size := by omega
  have z7 : ¬ 9223372036854775807 < 2 + (itoaB n).size + 6 + (itoaB a).size + 6 + (itoaB i).size + 8 + (textS l).size + 9 := by omega
  have z8 : ¬ 9223372036854775807 < 2 + (itoaB n).size + 6 + (itoaB a).size + 6 + (itoaB i).size + 8 + (textS l).size + 9 + (textS m).size := by omega
  have z9 : ¬ 9223372036854775807 < 2 + (itoaB n).size + 6 + (itoaB a).size + 6 + (itoaB i).size + 8 + (textS l).size + 9 + (textS m).size + 7 := by omega
  have z10 : ¬ 9223372036854775807 < 2 + (itoaB n).size + 6 + (itoaB a).size + 6 + (itoaB i).size + 8 + (textS l).size + 9 + (textS m).size + 7 + (textS h).size := by omega
  have z11 : ¬ 9223372036854775807 < 2 + (itoaB n).size + 6 + (itoaB a).size + 6 + (itoaB i).size + 8 + (textS l).size + 9 + (textS m).size + 7 + (textS h).size + 7 := by omega
  have z12 : ¬ 9223372036854775807 < 2 + (itoaB n).size + 6 + (itoaB a).size + 6 + (itoaB i).size + 8 + (textS l).size + 9 + (textS m).size + 7 + (textS h).size + 7 + (textS e).size := by omega
  clear s1 s2 s3 t1 t2 t3 t4
  unfold sumV lineS
  go_enter Tryd.func14, Tryd.ntmps14
  go_wp2_with (fail)
  have hB0 := fun o => ((Below.refl w.heap.size w).alloc (Nat.le_refl _) o).drew
  go_region_held3 (fun w' => w'.cell? ⟨w.heap.size, 0, none⟩ = some (.int .i64 n) ∧ w'.cell? ⟨w.heap.size, 1, none⟩ = some (.int .i64 a) ∧ w'.cell? ⟨w.heap.size, 2, none⟩ = some (.int .i64 i) ∧ w'.cell? ⟨w.heap.size, 3, none⟩ = some (.float .f64 l) ∧ w'.cell? ⟨w.heap.size, 4, none⟩ = some (.float .f64 m) ∧ w'.cell? ⟨w.heap.size, 5, none⟩ = some (.float .f64 h) ∧ w'.cell? ⟨w.heap.size, 6, none⟩ = some (.float .f64 e) ∧ Below w.heap.size w w')
    (first | exact held_keep (by assumption) hb | go_keep)
    (first | (go_at_call 40; refine (itoa_any _ (by assumption) (by assumption) _ (hp.below (heldB (by assumption)))).mono ?_; rintro z w' ⟨rfl, hb⟩) | (go_at_call 12; refine (stext_any _ (by assumption) _ (hp.below (heldB (by assumption)))).mono ?_; rintro z w' ⟨rfl, hb⟩))
  go_wp2
  go_ret
  exact ⟨rfl, heldB (by assumption)⟩
set_option maxRecDepth 100000 in
set_option maxHeartbeats 6400000 in
theorem rline_any (n a i : Int) (l m h e : Nat) (n0 : -9223372036854775808 ≤ n) (n1 : n ≤ 9223372036854775807) (a0 : -9223372036854775808 ≤ a) (a1 : a ≤ 9223372036854775807) (i0 : -9223372036854775808 ≤ i) (i1 : i ≤ 9223372036854775807)
    (hl : l < 18446744073709551616) (hm : m < 18446744073709551616) (hh : h < 18446744073709551616) (he : e < 18446744073709551616) (w : World) : Calls Tryd.prog 15 #[sumV n a i l m h e] w fun z w' => z = .returned (.string (lineS n a i l m h e)) ∧ Below w.heap.size w w' := by
  have s1 := itoaB_len n n0 n1
  have s2 := itoaB_len a a0 a1
  have s3 := itoaB_len i i0 i1
  have t1 := textS_len l
  have t2 := textS_len m
  have t3 := textS_len h
  have t4 := textS_len e
  have z0 : ¬ 9223372036854775807 < 2 + (itoaB n).size := by omega
  have z1 : ¬ 9223372036854775807 < 2 + (itoaB n).size + 6 := by omega
  have z2 : ¬ 9223372036854775807 < 2 + (itoaB n).size + 6 + (itoaB a).size := by omega
  have z3 : ¬ 9223372036854775807 < 2 + (itoaB n).size + 6 + (itoaB a).size + 6 := by omega
  have z4 : ¬ 9223372036854775807 < 2 + (itoaB n).size + 6 + (itoaB a).size + 6 + (itoaB i).size := by omega
  have z5 : ¬ 9223372036854775807 < 2 + (itoaB n).size + 6 + (itoaB a).size + 6 + (itoaB i).size + 8 := by omega
  have z6 : ¬ 9223372036854775807 < 2 + (itoaB n).size + 6 + (itoaB a).size + 6 + (itoaB i).size + 8 + (textS l).size := by omega
  have z7 : ¬ 9223372036854775807 < 2 + (itoaB n).size + 6 + (itoaB a).size + 6 + (itoaB i).size + 8 + (textS l).size + 9 := by omega
  have z8 : ¬ 9223372036854775807 < 2 + (itoaB n).size + 6 + (itoaB a).size + 6 + (itoaB i).size + 8 + (textS l).size + 9 + (textS m).size := by omega
  have z9 : ¬ 9223372036854775807 < 2 + (itoaB n).size + 6 + (itoaB a).size + 6 + (itoaB i).size + 8 + (textS l).size + 9 + (textS m).size + 7 := by omega
  have z10 : ¬ 9223372036854775807 < 2 + (itoaB n).size + 6 + (itoaB a).size + 6 + (itoaB i).size + 8 + (textS l).size + 9 + (textS m).size + 7 + (textS h).size := by omega
  have z11 : ¬ 9223372036854775807 < 2 + (itoaB n).size + 6 + (itoaB a).size + 6 + (itoaB i).size + 8 + (textS l).size + 9 + (textS m).size + 7 + (textS h).size + 7 := by omega
  have z12 : ¬ 9223372036854775807 < 2 + (itoaB n).size + 6 + (itoaB a).size + 6 + (itoaB i).size + 8 + (textS l).size + 9 + (textS m).size + 7 + (textS h).size + 7 + (textS e).size := by omega
  clear s1 s2 s3 t1 t2 t3 t4
  unfold sumV lineS
  go_enter Tryd.func15, Tryd.ntmps15
  go_wp2_with (fail)
  have hB0 := fun o => ((Below.refl w.heap.size w).alloc (Nat.le_refl _) o).drew
  go_region_held3 (fun w' => w'.cell? ⟨w.heap.size, 0, none⟩ = some (.int .i64 n) ∧ w'.cell? ⟨w.heap.size, 1, none⟩ = some (.int .i64 a) ∧ w'.cell? ⟨w.heap.size, 2, none⟩ = some (.int .i64 i) ∧ w'.cell? ⟨w.heap.size, 3, none⟩ = some (.float .f64 l) ∧ w'.cell? ⟨w.heap.size, 4, none⟩ = some (.float .f64 m) ∧ w'.cell? ⟨w.heap.size, 5, none⟩ = some (.float .f64 h) ∧ w'.cell? ⟨w.heap.size, 6, none⟩ = some (.float .f64 e) ∧ Below w.heap.size w w')
    (first | exact held_keep (by assumption) hb | go_keep)
    (first | (go_at_call 41; refine (number_any _ (by assumption) (by assumption) _).mono ?_; rintro z w' ⟨rfl, hb⟩) | (go_at_call 13; refine (rtextS_any _ (by assumption) _).mono ?_; rintro z w' ⟨rfl, hb⟩))
  go_wp2
  go_ret
  exact ⟨rfl, heldB (by assumption)⟩

end Go.Proofs.YtjcgachdnkdamaaDoor
