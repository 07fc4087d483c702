/- The walk of Parse, the program's. Conditions: the string is within the form's reach; the library's variables lie as LibW says. -/
import Derived.Test.YtcpbanekjncekaaDoorLbw
namespace Go.Proofs.YtcpbanekjncekaaDoor
open Go.RowKit Flt Go.Mem

theorem ret_fi {k : FloatKind} {l : IntKind} {a b : Nat} {c d : Int} (h : a = b) (g : c = d) : Ending.returned (.tuple #[.float k a, .int l c]) = .returned (.tuple #[.float k b, .int l d]) := by rw [h, g]
theorem parse_none {s : ByteArray} (h1 : ¬ 262144 < s.size) (h2 : ¬ s.data.toList = [105, 110, 102]) (h : spells s.data.toList = none) : parseW s = 0 ∧ parseE s = 5 := by
  unfold parseW parseE; rw [if_neg h1, if_neg h1, if_neg h2, if_neg h2, h]; exact ⟨rfl, rfl⟩
theorem parse_some {s : ByteArray} {q : Nat} (h1 : ¬ 262144 < s.size) (h2 : ¬ s.data.toList = [105, 110, 102]) (h : spells s.data.toList = some q) : parseW s = qf (q : Int) ∧ parseE s = 0 := by
  unfold parseW parseE; rw [if_neg h1, if_neg h1, if_neg h2, if_neg h2, h]; exact ⟨rfl, rfl⟩
theorem cutP_any (s : ByteArray) (w : World) (hl : LibW w) (hs : s.size < 4294967281) :
    Calls Tryd.prog 22 #[.string s, .string ⟨#[46]⟩] w fun e w' => e = .returned (.tuple #[.string (cutA s), .string (cutB s), .bool (cutF s)]) ∧ ∃ n, w' = w.drewN n := cut_any s ⟨#[46]⟩ w hl hs
def mapE (k : ByteArray) (v : Nat) (b : Nat) : MapEntry := { key := .string k, val := .float .f64 v, born := b }
theorem heap_at (w : World) (o : Obj) : (w.alloc o).heap[w.heap.size]? = some o := by
  show (w.heap.push o)[w.heap.size]? = some o
  simp
theorem ins1 (W : World) : (Instr.mapUpdate 48 (.map (some W.heap.size)) (.string ⟨#[50, 53]⟩) (.float .f64 4598175219545276416)).run Tryd.prog (W.alloc (.map #[] 0)) = .ok () (W.alloc (.map #[mapE ⟨#[50, 53]⟩ 4598175219545276416 0] 1)) :=
  (run_insert_known (es := #[]) (c := 0) Tryd.underlying48 Tryd.underlying9 (heap_at _ _) (run_checkKey_str Tryd.underlying9 false 9999 _) rfl).trans (congrArg _ (setMap_alloc _ _ _))
theorem ins2 (W : World) : (Instr.mapUpdate 48 (.map (some W.heap.size)) (.string ⟨#[53]⟩) (.float .f64 4602678819172646912)).run Tryd.prog (W.alloc (.map #[mapE ⟨#[50, 53]⟩ 4598175219545276416 0] 1)) = .ok () (W.alloc (.map #[mapE ⟨#[50, 53]⟩ 4598175219545276416 0, mapE ⟨#[53]⟩ 4602678819172646912 1] 2)) :=
  (run_insert_known (es := #[mapE ⟨#[50, 53]⟩ 4598175219545276416 0]) (c := 1) Tryd.underlying48 Tryd.underlying9 (heap_at _ _) (run_checkKey_str Tryd.underlying9 false 9999 _) (by kernel_rfl)).trans (congrArg _ (setMap_alloc _ _ _))
theorem ins3 (W : World) : (Instr.mapUpdate 48 (.map (some W.heap.size)) (.string ⟨#[55, 53]⟩) (.float .f64 4604930618986332160)).run Tryd.prog (W.alloc (.map #[mapE ⟨#[50, 53]⟩ 4598175219545276416 0, mapE ⟨#[53]⟩ 4602678819172646912 1] 2)) = .ok () (W.alloc (.map #[mapE ⟨#[50, 53]⟩ 4598175219545276416 0, mapE ⟨#[53]⟩ 4602678819172646912 1, mapE ⟨#[55, 53]⟩ 4604930618986332160 2] 3)) :=
  (run_insert_known (es := #[mapE ⟨#[50, 53]⟩ 4598175219545276416 0, mapE ⟨#[53]⟩ 4602678819172646912 1]) (c := 2) Tryd.underlying48 Tryd.underlying9 (heap_at _ _) (run_checkKey_str Tryd.underlying9 false 9999 _) (by kernel_rfl)).trans (congrArg _ (setMap_alloc _ _ _))
theorem look3 (W : World) (p : ByteArray) : (Instr.lookup 48 (.map (some W.heap.size)) (.string p) false).run Tryd.prog (W.alloc (.map #[mapE ⟨#[50, 53]⟩ 4598175219545276416 0, mapE ⟨#[53]⟩ 4602678819172646912 1, mapE ⟨#[55, 53]⟩ 4604930618986332160 2] 3)) = .ok (.float .f64 (partF (partV p.data.toList))) (W.alloc (.map #[mapE ⟨#[50, 53]⟩ 4598175219545276416 0, mapE ⟨#[53]⟩ 4602678819172646912 1, mapE ⟨#[55, 53]⟩ 4604930618986332160 2] 3)) := by
  have hr : ∃ r, Instr.findNow .string (.string p) (#[mapE ⟨#[50, 53]⟩ 4598175219545276416 0, mapE ⟨#[53]⟩ 4602678819172646912 1, mapE ⟨#[55, 53]⟩ 4604930618986332160 2] : Array MapEntry).toList 0 = some r ∧ (match (generalizing := false) r with | some (_, v) => v | none => Value.float .f64 0) = .float .f64 (partF (partV p.data.toList)) := by
    by_cases a1 : p.data.toList = [50, 53]
    · obtain ⟨⟨l⟩⟩ := p; cases a1; exact ⟨some (0, .float .f64 4598175219545276416), by kernel_rfl, by kernel_rfl⟩
    · by_cases a2 : p.data.toList = [53]
      · obtain ⟨⟨l⟩⟩ := p; cases a2; exact ⟨some (1, .float .f64 4602678819172646912), by kernel_rfl, by kernel_rfl⟩
      · by_cases a3 : p.data.toList = [55, 53]
        · obtain ⟨⟨l⟩⟩ := p; cases a3; exact ⟨some (2, .float .f64 4604930618986332160), by kernel_rfl, by kernel_rfl⟩
        · have hn : ∀ l : ByteArray, ¬ p.data.toList = l.data.toList → (p == l) = false := by
            intro l hl
            refine Bool.eq_false_iff.2 fun hh => hl ?_
            have h3 : (p.data == l.data) = true := hh
            rw [eq_of_beq h3]
          refine ⟨none, ?_, ?_⟩
          · simp only [Instr.findNow, Instr.sameNow, mapE, hn ⟨#[50, 53]⟩ a1, hn ⟨#[53]⟩ a2, hn ⟨#[55, 53]⟩ a3]
          · unfold partV partF; rw [if_neg a1, if_neg a2, if_neg a3]; rfl
  obtain ⟨r, r1, r2⟩ := hr
  refine (run_lookup_known (z := .float .f64 0) Tryd.underlying48 Tryd.underlying9 (heap_at _ _) (run_checkKey_str Tryd.underlying9 _ 9999 _) ?_ r1).trans (congrArg (fun z => Result.ok z _) r2)
  first | rfl | (simp [zeroValue]; rfl)
set_option maxHeartbeats 1600000 in
theorem parse_any (s : ByteArray) (w : World) (hl : LibW w) : Calls Tryd.prog 11 #[.string s] w fun e w' => e = .returned (.tuple #[.float .f64 (parseW s), .int .i64 (parseE s)]) ∧ Below w.heap.size w w' := by
  have HL := Lib.hid hl
  clear hl
  by_cases h1 : 262144 < (s.size : Int)
  · have H1 : Hid (parseW s = 0) := Lib.hid (by unfold parseW; rw [if_pos (by omega)])
    have H2 : Hid (parseE s = 3) := Lib.hid (by unfold parseE; rw [if_pos (by omega)])
    go_enter Tryd.func11, Tryd.ntmps11
    go_wp2
    go_ret2
    exact ⟨ret_fi H1.out.symm H2.out.symm, Below.refl _ _⟩
  · have h1' : ¬ 262144 < s.size := by omega
    have HT := Lib.hid (ba_toList s)
    cases h2 : (s.toList == [105, 110, 102])
    · have h2' : ¬ s.data.toList = [105, 110, 102] := by
        intro h; rw [← HT.out] at h; rw [h] at h2; exact absurd h2 (by decide)
      have hcs := cutA_size s
      have N := Lib.hid (fun h => @parse_none s h1' h2' h)
      have M := Lib.hid (fun q h => @parse_some s q h1' h2' h)
      clear h2'
      go_enter Tryd.func11, Tryd.ntmps11
      go_wp2_with (go_at_call 22; refine (cutP_any s _ HL.out (by omega)).mono ?_; rintro e w1 ⟨rfl, n1, rfl⟩)
      have HL1 : Hid (LibW (w.drewN n1)) := Lib.hid (HL.out.below (below_drewN (Below.refl _ _) n1))
      by_cases hp : ∃ u, Lib.parseUintB 64 (cutA s).data.toList = .ok u
      · obtain ⟨u, hp⟩ := hp
        have HP := Lib.hid hp
        clear hp
        by_cases hu : 1099511627776 < u
        · go_wp2_with (go_at_call 23; refine (puint_ok _ (by omega) u HP.out _).mono ?_; rintro e w2 ⟨rfl, hb2⟩)
          go_ret2
          obtain ⟨H1, H2⟩ := N.out (spells_ne HP.out (Or.inl (by omega)))
          exact ⟨ret_fi H1.symm H2.symm, (below_drewN (Below.refl _ _) n1).trans hb2⟩
        · have hmk : ∀ w, (Instr.makeMap 48 none).run Tryd.prog w = .ok (.map (some w.heap.size)) (w.alloc (.map #[] 0)) := fun w => run_makeMap _ w
          have i1 := ins1
          have i2 := ins2
          have i3 := ins3
          have l3 := look3
          have hpv := partV_lt (cutB s).data.toList
          obtain ⟨q, hq⟩ : ∃ q, q = 4 * u + partV (cutB s).data.toList := ⟨_, rfl⟩
          obtain ⟨D, hD⟩ : ∃ D, D = qf (q : Int) := ⟨_, rfl⟩
          have hql : q < 4503599627370496 := by omega
          have hop : ∀ t w, (binOp .add t (.float .f64 (floatOfInt .f64 (u : Int))) (.float .f64 (partF (partV (cutB s).data.toList)))).run Tryd.prog w = .ok (.float .f64 D) w := fun t w => run_float_arith w .add t .f64 _ _ _ (by rw [hD, hq]; exact add_part u (by omega) _ hpv)
          have hDl : D < 18446744073709551616 := by rw [hD]; exact (qf_isQ (n := (q : Int)) (by omega)).lt
          have NE : Hid (4398046511104 < q ∨ textL q ≠ s.data.toList → parseW s = 0 ∧ parseE s = 5) := Lib.hid (fun h => N.out (spells_ne HP.out (by rw [← hq]; exact h)))
          have MQ : Hid (q ≤ 4398046511104 → textL q = s.data.toList → parseW s = D ∧ parseE s = 0) := Lib.hid (fun h1 h2 => by rw [hD]; exact M.out q (spells_of h1 h2))
          have TB : Hid (q ≤ 4398046511104 → textB D = ⟨(textL q).toArray⟩ ∧ textE D = 0) := Lib.hid (fun h => by rw [hD]; exact textB_qf q h)
          have TE : Hid (4398046511104 < q → textE D = 5) := Lib.hid (fun h => by rw [hD]; exact textE_big q h hql)
          clear hD hq hpv N M
          go_wp2_with (go_at_call 23; refine (puint_ok _ (by omega) u HP.out _).mono ?_; rintro e w2 ⟨rfl, hb2⟩)
          have hb3 : Below w.heap.size w (w2.alloc (Obj.map #[mapE ⟨#[50, 53]⟩ 4598175219545276416 0, mapE ⟨#[53]⟩ 4602678819172646912 1, mapE ⟨#[55, 53]⟩ 4604930618986332160 2] 3)) := ((below_drewN (Below.refl _ _) n1).trans hb2).alloc hb2.size _
          have HB3 := Lib.hid hb3
          clear hb3 hmk i1 i2 i3 l3 hop hb2
          refine (text_any _ hDl _ (HL.out.below HB3.out).pow).mono ?_
          rintro e w4 ⟨rfl, hb4⟩
          have HB4 := Lib.hid (HB3.out.trans (hb4.mono HB3.out.size))
          clear hb4
          by_cases hqb : 4398046511104 < q
          · have hE := TE.out hqb
            rw [hE]
            generalize textB D = tb
            go_wp2
            go_ret2
            obtain ⟨H1, H2⟩ := NE.out (Or.inl hqb)
            exact ⟨ret_fi H1.symm H2.symm, HB4.out⟩
          · obtain ⟨hB, hE⟩ := TB.out (by omega)
            rw [hE]
            by_cases hx : textL q = s.data.toList
            · have hc : ((textB D).toList == s.toList) = true := by rw [hB, ba_toList, HT.out, ← hx]; simp
              clear hB
              generalize textB D = tb at *
              go_wp2
              go_ret2
              obtain ⟨H1, H2⟩ := MQ.out (by omega) hx
              exact ⟨ret_fi H1.symm H2.symm, HB4.out⟩
            · have hc : ((textB D).toList == s.toList) = false := by rw [hB, ba_toList, HT.out]; simp [hx]
              clear hB
              generalize textB D = tb at *
              go_wp2
              go_ret2
              obtain ⟨H1, H2⟩ := NE.out (Or.inr hx)
              exact ⟨ret_fi H1.symm H2.symm, HB4.out⟩
      · go_wp2_with (go_at_call 23; refine (puint_bad _ (by omega) (fun u h => hp ⟨u, h⟩) _ HL1.out).mono ?_; rintro e w2 ⟨⟨x, t, p, rfl⟩, hb2⟩)
        go_ret2
        obtain ⟨H1, H2⟩ := N.out (spells_bad fun u h => hp ⟨u, h⟩)
        exact ⟨ret_fi H1.symm H2.symm, (below_drewN (Below.refl _ _) n1).trans hb2⟩
    · have h2' : s.data.toList = [105, 110, 102] := by rw [← HT.out]; exact eq_of_beq h2
      have H1 : Hid (parseW s = 9218868437227405312) := Lib.hid (by unfold parseW; rw [if_neg h1', if_pos h2'])
      have H2 : Hid (parseE s = 0) := Lib.hid (by unfold parseE; rw [if_neg h1', if_pos h2'])
      go_enter Tryd.func11, Tryd.ntmps11
      go_wp2_with (go_at_call 21; refine (inf1_any _).mono ?_; rintro e w' ⟨rfl, rfl⟩)
      go_ret2
      exact ⟨ret_fi H1.out.symm H2.out.symm, Below.refl _ _⟩

end Go.Proofs.YtcpbanekjncekaaDoor
