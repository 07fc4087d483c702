/- The walks of the program's Parse, of the reference's Text and Parse, and of the laws on texts. Conditions: texts of at most 2^47 bytes; the library's variables lie as their texts lay them. -/
import Derived.Test.YtfmookfiakfioaaDoorIdq
import Derived.Test.YtfmookfiakfioaaDoorShelfa
import Derived.Deep.RegionHeld3
import Derived.Stop.LaidErr
import Derived.WalkSmall
import Derived.Lib.AtoiAllCases
import Derived.Lib.AtoiErrMem
import Derived.Laws.IdiomStrings
import Derived.OpenShut
namespace Go.Proofs.YtfmookfiakfioaaDoor
open Go.RowKit Go.Mem Idn Go.Proofs.YtfmookfiakfioaaDoorW.PrintWords Go.Lib Go.Shelf
open Go.Sort hiding Below
set_option linter.unusedVariables false

namespace Idn
theorem ba_loop (b : ByteArray) : ∀ (n i : Nat) (r : List UInt8), b.size - i = n → ByteArray.toList.loop b i r = r.reverse ++ b.data.toList.drop i := by
  intro n
  induction n with
  | zero =>
    intro i r h
    have h2 : b.data.toList.length ≤ i := by have : b.size = b.data.size := rfl; simp; omega
    rw [ByteArray.toList.loop, if_neg (by omega), List.drop_eq_nil_of_le h2, List.append_nil]
  | succ n ih =>
    intro i r h
    rw [ByteArray.toList.loop, if_pos (by omega), ih (i + 1) _ (by omega)]
    have hi : i < b.data.toList.length := by have : b.size = b.data.size := rfl; simp; omega
    rw [List.drop_eq_getElem_cons hi, List.reverse_cons, List.append_assoc]
    have e : b.get! i = b.data.toList[i] := by
      have h3 : i < b.data.size := by simpa using hi
      show b.data[i]! = _
      rw [getElem!_pos b.data i h3]; simp
    rw [e]; rfl
theorem ba_toList (b : ByteArray) : b.toList = b.data.toList := by
  unfold ByteArray.toList
  rw [ba_loop b b.size 0 [] (by omega)]; simp

theorem strOf_one (d : Nat) (h : d < 10) : strOfNums [(48 + (d : Int))] = ⟨#[UInt8.ofNat (48 + d)]⟩ := by
  have h4 : d = 0 ∨ d = 1 ∨ d = 2 ∨ d = 3 ∨ d = 4 ∨ d = 5 ∨ d = 6 ∨ d = 7 ∨ d = 8 ∨ d = 9 := by omega
  rcases h4 with rfl | rfl | rfl | rfl | rfl | rfl | rfl | rfl | rfl | rfl <;> decide
theorem ba_app (a b : List UInt8) : (⟨a.toArray⟩ : ByteArray) ++ ⟨b.toArray⟩ = ⟨(a ++ b).toArray⟩ := by
  apply ByteArray.ext; rw [ByteArray.data_append]; simp
theorem digits_loop (v : Nat) : v ≤ 2147483647 → ∀ t : List UInt8, t.length + v ≤ 4000000000 → Ev (fun k => PText.beaconref02_digits.l0 k (v : Int) ⟨t.toArray⟩) ⟨(Lib.decDigits v ++ t).toArray⟩ := by
  induction v using Nat.strongRecOn with
  | _ v ih =>
    intro hv t ht
    have hsz : ∀ c : UInt8, (⟨#[c]⟩ : ByteArray).size + (⟨t.toArray⟩ : ByteArray).size ≤ 9223372036854775807 := fun c => by
      show (#[c] : Array UInt8).size + t.toArray.size ≤ _; simp; omega
    by_cases h : v < 10
    · have e : (wrap64 (48 + (v : Int))) % 256 = 48 + (v : Int) := by rw [wrap_small (by omega) (by omega)]; omega
      rw [dec_one v h]
      refine Ev.step (f := fun _ => some ⟨([UInt8.ofNat (48 + v)] ++ t).toArray⟩) (fun k => ?_) (Ev.now _)
      simp only [PText.beaconref02_digits.l0]
      rw [if_neg (by omega), e]
      simp only [Option.bind_some]
      rw [strOf_one v h, if_pos (hsz _)]
      exact congrArg some (ba_app [UInt8.ofNat (48 + v)] t)
    · have ht1 : Int.tmod (v : Int) 10 = ((v % 10 : Nat) : Int) := by rw [Int.tmod_eq_emod_of_nonneg (by omega)]; omega
      have ht2 : wrap64 (Int.tdiv (v : Int) 10) = ((v / 10 : Nat) : Int) := by rw [Int.tdiv_eq_ediv_of_nonneg (by omega), wrap_small (by omega) (by omega)]; omega
      have e : (wrap64 (48 + ((v % 10 : Nat) : Int))) % 256 = 48 + ((v % 10 : Nat) : Int) := by rw [wrap_small (by omega) (by omega)]; omega
      have ih := ih (v / 10) (by omega) (by omega) (UInt8.ofNat (48 + v % 10) :: t)
      rw [dec_more v (by omega), List.append_assoc]
      refine Ev.step (fun k => ?_) (ih (by simp; omega))
      simp only [PText.beaconref02_digits.l0]
      rw [if_pos (by omega), ht1, e]
      simp only [Option.bind_some]
      rw [strOf_one (v % 10) (by omega), if_pos (hsz _), ht2, ba_app [UInt8.ofNat (48 + v % 10)] t]
      rfl
theorem rtext (n : Int) : Ev (fun k => PText.beaconref02_Text.f k n) (textB n, idE n) := by
  unfold PText.beaconref02_Text.f
  rw [show PText.beaconref02_CheckId.f n = some (idE n) from checkId n]
  simp only [Option.bind_some]
  rcases idE_ways n with h | h
  · have hb : 1 ≤ n ∧ n ≤ 2147483647 := by
      unfold idE at h; split at h
      · rename_i h2; exact h2
      · cases h
    obtain ⟨v, rfl⟩ : ∃ v : Nat, n = (v : Int) := ⟨n.toNat, by omega⟩
    have hd := digits_loop v (by omega) [] (by simp; omega)
    rw [List.append_nil] at hd
    refine Ev.pos h (Ev.bind (a := itB (v : Int)) ?_ ?_)
    · unfold PText.beaconref02_digits.f itB; rw [Lib.itoa_nonneg]; exact hd
    · have hz := itB_len (v : Int) (by omega) (by omega)
      refine Ev.pos (by omega) ?_
      rw [show textB (v : Int) = ⟨#[110]⟩ ++ itB (v : Int) by unfold textB; rw [if_pos h], h]
      exact Ev.now _
  · refine Ev.neg (by rw [h]; decide) ?_
    rw [show textB n = ⟨#[]⟩ by unfold textB; rw [if_neg (by rw [h]; decide)]]
    exact Ev.now _
end Idn
theorem rtextB (n : Int) (w : World) : Calls Tryd.prog 29 #[.int .i64 n] w fun e w' => e = .returned (.tuple #[.string (textB n), .int .i64 (idE n)]) ∧ Below w.heap.size w w' := by
  obtain ⟨k, hk⟩ := (rtext n).rounds
  exact PText.beaconref02_Text.calls k n _ _ w hk
theorem rparseB (s : ByteArray) (w : World) : Calls Tryd.prog 31 #[.string s] w fun e w' => e = .returned (.tuple #[.int .i64 (parseW s), .int .i64 (parseE s)]) ∧ Below w.heap.size w w' := by
  obtain ⟨k, hk⟩ := (rparse s).rounds
  exact (PParse.beaconref02_Parse.calls k s _ _ w hk).mono fun _ _ ⟨h1, h2⟩ => ⟨h1, h2.below⟩
/-- the library's variables that are read: a table, two sentinels -/
structure LibW (w : World) : Prop where make ::
  pow : Pow10 w
  es : ∃ tp p, w.var? Tryd.prog "strconv.ErrSyntax" = some #[.iface tp p]
  er : ∃ tp p, w.var? Tryd.prog "strconv.ErrRange" = some #[.iface tp p]
theorem gES : Tryd.prog.globalNamed "strconv.ErrSyntax" = some 0 := by kernel_rfl
theorem gER : Tryd.prog.globalNamed "strconv.ErrRange" = some 1 := by kernel_rfl
theorem LibW.below {w w' : World} (h : LibW w) (hb : Below w.heap.size w w') : LibW w' := by
  obtain ⟨h1, ⟨tp, p, h3⟩, ⟨tq, q, h4⟩⟩ := h
  refine ⟨h1.below hb, ⟨tp, p, ?_⟩, ⟨tq, q, ?_⟩⟩
  · have hc := World.var?_cell gES h3 0
    exact var?_below hb gES (World.block_lt_of_cell? w ⟨0, 0, none⟩ (by rw [hc]; rfl)) h3
  · have hc := World.var?_cell gER h4 0
    exact var?_below hb gER (World.block_lt_of_cell? w ⟨1, 0, none⟩ (by rw [hc]; rfl)) h4
theorem star_err : "*" ++ "errors.errorString" = "*errors.errorString" := by decide
theorem errRow (u : TypeId) (h : Tryd.prog.typeName? 3 u = some "*errors.errorString") : u = 114 :=
  typeName_ptr_named (nm := "errors.errorString") (by rw [star_err]; kernel_rfl) (by kernel_rfl) (by decide) u (by rw [star_err]; exact h)
/-- its post where it fails: some number, and an error -/
def BadA (w : World) (e : Ending) (w' : World) : Prop := (∃ (x : Int) (t : TypeId) (p : Value), e = .returned (.tuple #[.int .i64 x, .iface t p])) ∧ Below w.heap.size w w'
theorem atoi_bad (s : ByteArray) (hs : s.size ≤ 281474976710656) (h : ∀ v, Lib.atoiAll s.data.toList ≠ .ok v) (w : World) (hl : LibW w) : Calls Tryd.prog 47 #[.string s] w (BadA w) := by
  obtain ⟨tp, p, h3⟩ := hl.es
  obtain ⟨tq, q, h4⟩ := hl.er
  cases hc : Lib.atoiAll s.data.toList
  · exact absurd hc (h _)
  · exact (Any.strconv_Atoi_syntax_var Tryd.laysC172 s hs hc tp p w h3).mono fun e w' ⟨N, he, _, _, hb⟩ => ⟨⟨_, _, _, he⟩, hb⟩
  · exact (Any.strconv_Atoi_range_var Tryd.laysC172 s hs hc tq q w h4).mono fun e w' ⟨N, he, _, _, hb⟩ => ⟨⟨_, _, _, he⟩, hb⟩
theorem atoi_ok (s : ByteArray) (hs : s.size ≤ 281474976710656) (v : Int) (h : Lib.atoiAll s.data.toList = .ok v) (w : World) :
    Calls Tryd.prog 47 #[.string s] w fun e w' => e = .returned (.tuple #[.int .i64 v, .nilIface]) ∧ Below w.heap.size w w' :=
  (Tryd.strconv_Atoi_ok s (by omega) v h w).mono fun e w' ⟨he, hw⟩ => ⟨he, by
    rcases hw with hw | ⟨t, hw⟩
    · rw [hw]; exact Below.refl _ _
    · rw [hw]; exact Lib.bytesWorld_below _ _ _⟩
theorem ret_pe {a b c d : Int} (h : a = b) (g : c = d) : Ending.returned (.tuple #[.int .i64 a, .int .i64 c]) = .returned (.tuple #[.int .i64 b, .int .i64 d]) := by rw [h, g]
theorem parse_short (s : ByteArray) (h : s.size < 2) : ∀ v, ¬ Reads s v := fun v ⟨h1, h2, _⟩ => by
  have := congrArg List.length h1
  rw [← ba_size] at this
  obtain ⟨c, t, e, _⟩ := dec_head v h2
  rw [e] at this; simp at this; omega
theorem list0 (s : ByteArray) (h : 0 < s.size) : s.data.toList = s[0] :: (s.extract 1 s.size).data.toList := by
  rw [ByteArray.data_extract, Array.toList_extract, List.extract, List.take_of_length_le (by simp)]
  have h0 : 0 < s.data.toList.length := by rw [← ba_size]; exact h
  have := List.drop_eq_getElem_cons h0
  rw [List.drop_zero] at this
  exact this
theorem idBx (n : Int) (w : World) : Calls Tryd.prog 10 #[.int .i64 n] w fun e w' => e = .returned (.int .i64 (idE n)) ∧ Below w.heap.size w w' := (id_any n w).mono fun _ _ ⟨h1, q, h2⟩ => ⟨h1, by rw [h2]; exact below_drewN (Below.refl _ _) q⟩
theorem below_drew {B : Nat} {a w : World} (h : Below B a w) : Below B a w.drew := below_drewN h 1
theorem dec_atoi (u : Nat) (h : u ≤ 9223372036854775807) : Lib.atoiAll (Lib.decDigits u) = .ok (u : Int) := by rw [← Lib.parseIntB_64]; exact parseIntB_dec u h
set_option maxRecDepth 100000 in
set_option maxHeartbeats 3200000 in
theorem parse_any (s : ByteArray) (hs : s.size ≤ 140737488351232) (w : World) (hl : LibW w) :
    Calls Tryd.prog 30 #[.string s] w fun e w' => e = .returned (.tuple #[.int .i64 (parseW s), .int .i64 (parseE s)]) ∧ Below w.heap.size w w' := by
  by_cases h1 : s.size < 2
  · have HN := Lib.hid (parse_no (parse_short s h1))
    have h2 : (s.size : Int) < 2 := by omega
    go_enter Tryd.func30, Tryd.ntmps30
    go_wp2
    go_ret2
    exact ⟨ret_pe HN.out.1.symm HN.out.2.symm, Below.refl _ _⟩
  · have h2 : ¬ (s.size : Int) < 2 := by omega
    have h0 : 0 < s.size := by omega
    have h01 : (1 : Int) ≤ (s.size : Int) := by omega
    have hL := list0 s h0
    by_cases h3 : s[0].toNat = 110
    · have h4 : ((s[0].toNat : Int) != 110) = false := by rw [bne_eq_false_iff_eq]; omega
      have h5 : s[0] = 110 := UInt8.toNat_inj.1 h3
      rw [h5] at hL
      have HL := Lib.hid hL
      have hsz : (s.extract 1 s.size).size ≤ 281474976710656 := by rw [ByteArray.size_extract]; omega
      have hB0 := Below.refl w.heap.size w
      clear h5 hL h3
      by_cases hA : ∀ v, Lib.atoiAll (s.extract 1 s.size).data.toList ≠ .ok v
      · have HN := Lib.hid (parse_no (s := s) (fun v ⟨e, _, h6⟩ => by
          rw [HL.out] at e
          injection e with _ e
          exact hA v (by rw [e]; exact dec_atoi v (by omega))))
        have HAT := Lib.hid (fun w' hl' => atoi_bad (s.extract 1 s.size) hsz hA w' hl')
        clear hA hsz
        go_enter Tryd.func30, Tryd.ntmps30
        go_wp2_with (fail)
        refine (HAT.out _ hl).mono ?_
        rintro e w1 ⟨⟨x, t, p, rfl⟩, hb1⟩
        go_wp2_with (fail)
        go_quiet (fail)
        go_wp2
        go_ret2
        exact ⟨ret_pe HN.out.1.symm HN.out.2.symm, below_drewN hb1 _⟩
      · obtain ⟨v, hv⟩ : ∃ v, Lib.atoiAll (s.extract 1 s.size).data.toList = .ok v := Classical.byContradiction fun hn => hA fun v hv => hn ⟨v, hv⟩
        have HAT := Lib.hid (fun w' => atoi_ok (s.extract 1 s.size) hsz v hv w')
        obtain ⟨hv0, hv1⟩ := Lib.atoiAll_bounds hv
        have HV := Lib.hid hv
        have HI := fun w => id_any v w
        have HIB := fun w => idBx v w
        rcases idE_ways v with hi | hi
        · rw [hi] at HI HIB
          have HI2 := Lib.hid HIB
          have hvp : 1 ≤ v ∧ v ≤ 2147483647 := by
            unfold idE at hi; split at hi
            · rename_i h2; exact h2
            · cases hi
          obtain ⟨u, rfl⟩ : ∃ u : Nat, v = (u : Int) := ⟨v.toNat, by omega⟩
          have HIT := Lib.hid (fun w' hp' => itoa_any (u : Int) hv0 hv1 w' hp')
          have hit : (itB (u : Int)).data.toList = Lib.decDigits u := by unfold itB; rw [Lib.itoa_nonneg]
          by_cases he : itB (u : Int) = s.extract 1 s.size
          · have HY := Lib.hid (parse_yes (s := s) (v := u) ⟨by rw [HL.out, ← he, hit], by omega, by omega⟩)
            clear hA hsz hi hv HI HIB hv0 hv1 hit
            generalize itB (u : Int) = z at *
            subst he
            go_enter Tryd.func30, Tryd.ntmps30
            go_wp2_with (fail)
            refine (HAT.out _).mono ?_
            rintro e w1 ⟨rfl, hb1⟩
            go_wp2_with (fail)
            go_region_held3 (fun w' => Below w.heap.size w w') (first | exact below_drew hb1 | (exact Below.trans (by assumption) (hb.mono (Below.size (by assumption)))) | assumption) (first | (go_at_call 10; refine (HI2.out _).mono ?_; rintro z w' ⟨rfl, hb⟩) | (go_at_call 45; refine (HIT.out _ (hl.pow.below (by assumption))).mono ?_; rintro z w' ⟨rfl, hb⟩))
            go_wp2
            go_ret2
            exact ⟨ret_pe HY.out.1.symm HY.out.2.symm, by assumption⟩
          · have HN := Lib.hid (parse_no (s := s) (fun v' ⟨e, _, h6⟩ => by
              rw [HL.out] at e
              injection e with _ e
              have h7 := dec_atoi v' (by omega)
              rw [← e, HV.out] at h7
              injection h7 with h7
              have h8 : u = v' := by omega
              subst h8
              apply he
              apply ByteArray.ext
              apply Array.toList_inj.1
              rw [hit]; exact e.symm))
            have hne : (itB (u : Int) != s.extract 1 s.size) = true := by show (!(itB (u : Int) == s.extract 1 s.size)) = true; rw [Bool.not_eq_true', ← Bool.not_eq_true, MapKept.bytes_beq]; exact he
            have hne2 : (!(itB (u : Int)).toList == (s.extract 1 s.size).toList) = true := by
              rw [Bool.not_eq_true', ← Bool.not_eq_true, beq_iff_eq, ba_toList, ba_toList]
              exact fun h => he (ByteArray.ext (Array.toList_inj.1 h))
            clear hA hsz hi hv HI HIB hv0 hv1 hit he
            generalize itB (u : Int) = z at *
            go_enter Tryd.func30, Tryd.ntmps30
            go_wp2_with (fail)
            refine (HAT.out _).mono ?_
            rintro e w1 ⟨rfl, hb1⟩
            go_wp2_with (fail)
            go_region_held3 (fun w' => Below w.heap.size w w') (first | exact below_drew hb1 | (exact Below.trans (by assumption) (hb.mono (Below.size (by assumption)))) | assumption) (first | (go_at_call 10; refine (HI2.out _).mono ?_; rintro z w' ⟨rfl, hb⟩) | (go_at_call 45; refine (HIT.out _ (hl.pow.below (by assumption))).mono ?_; rintro z w' ⟨rfl, hb⟩))
            go_wp2
            go_ret2
            exact ⟨ret_pe HN.out.1.symm HN.out.2.symm, by assumption⟩
        · rw [hi] at HI
          have HI2 := Lib.hid HI
          have HN := Lib.hid (parse_no (s := s) (fun v' ⟨e, h5, h6⟩ => by
            rw [HL.out] at e
            injection e with _ e
            have h7 := dec_atoi v' (by omega)
            rw [← e, HV.out] at h7
            injection h7 with h7
            rw [h7] at hi
            unfold idE at hi
            rw [if_pos (by omega)] at hi
            cases hi))
          clear hA hsz hi hv HI HIB hv0 hv1
          go_enter Tryd.func30, Tryd.ntmps30
          go_wp2_with (fail)
          refine (HAT.out _).mono ?_
          rintro e w1 ⟨rfl, hb1⟩
          go_wp2_with (fail)
          go_quiet ((go_at_call 10; first | exact quiet_more' (HI2.out _) | exact Calls.quiet_of (HI2.out _)))
          go_wp2
          go_ret2
          exact ⟨ret_pe HN.out.1.symm HN.out.2.symm, below_drewN hb1 _⟩
    · have HN := Lib.hid (parse_no (s := s) (fun v ⟨e, _, _⟩ => by rw [hL] at e; injection e with e _; rw [e] at h3; exact h3 rfl))
      have h4 : ((s[0].toNat : Int) != 110) = true := by rw [bne_iff_ne]; omega
      clear hL
      go_enter Tryd.func30, Tryd.ntmps30
      go_wp2
      go_ret2
      exact ⟨ret_pe HN.out.1.symm HN.out.2.symm, Below.refl _ _⟩
set_option maxRecDepth 100000 in
set_option maxHeartbeats 1600000 in
theorem IdentTexts_walk (a : Int) (s : ByteArray) (w : World) (wa : (Lit.int .i64 a).wf = true) (hs : s.size ≤ 140737488351232) (hl : LibW w) : Calls Tryd.prog 8 #[.int .i64 a, .string s] w fun e w' => e = .returned (.bool true) ∧ Below w.heap.size w w' := by
  obtain ⟨a0, a1⟩ := bounds_i64 wa
  clear wa
  go_enter Tryd.func8, Tryd.ntmps8
  go_wp2_with (fail)
  refine (text_any a a0 a1 _ hl.pow).mono ?_
  rintro e w1 ⟨rfl, hb1⟩
  have HB1 := Lib.hid hb1
  clear hb1
  go_wp2_with (fail)
  refine (rtextB a _).mono ?_
  rintro e w2 ⟨rfl, hb2⟩
  have HB2 := Lib.hid (HB1.out.trans (hb2.mono HB1.out.size))
  clear hb2
  go_wp2_with (fail)
  refine (parse_any s hs _ (hl.below HB2.out)).mono ?_
  rintro e w3 ⟨rfl, hb3⟩
  have HB3 := Lib.hid (HB2.out.trans (hb3.mono HB2.out.size))
  clear hb3
  go_wp2_with (fail)
  refine (rparseB s _).mono ?_
  rintro e w4 ⟨rfl, hb4⟩
  have HB4 := Lib.hid (HB3.out.trans (hb4.mono HB3.out.size))
  clear hb4
  go_wp2_with (fail)
  refine (awake_any _ (hl.pow.below HB4.out)).mono ?_
  rintro e w5 ⟨rfl, hb5⟩
  have HB5 := Lib.hid (HB4.out.trans (hb5.mono HB4.out.size))
  clear hb5
  go_wp2
  go_ret
  exact ⟨rfl, HB5.out⟩
theorem reads_text {v : Nat} (h1 : 1 ≤ v) (h2 : v ≤ 2147483647) : Reads (textB (v : Int)) v := by
  have hi : idE (v : Int) = 0 := by unfold idE; rw [if_pos (by omega)]
  refine ⟨?_, h1, h2⟩
  unfold textB itB
  rw [if_pos hi, Lib.itoa_nonneg, ByteArray.data_append]
  simp
theorem text_reads {s : ByteArray} {v : Nat} (h : Reads s v) : textB (v : Int) = s ∧ idE (v : Int) = 0 := by
  obtain ⟨h0, h1, h2⟩ := h
  have hr := reads_text h1 h2
  refine ⟨?_, by unfold idE; rw [if_pos (by omega)]⟩
  apply ByteArray.ext
  apply Array.toList_inj.1
  rw [hr.1, h0]
theorem textB_len (a : Int) : (textB a).size ≤ 30 := by
  unfold textB
  split
  · rename_i h
    have hb : 1 ≤ a ∧ a ≤ 2147483647 := by
      unfold idE at h; split at h
      · rename_i h2; exact h2
      · cases h
    have := itB_len a (by omega) (by omega)
    rw [ByteArray.size_append]
    have h1 : (⟨#[110]⟩ : ByteArray).size = 1 := by decide
    omega
  · decide
-- the second half: what is read is written so
set_option maxRecDepth 100000 in
set_option maxHeartbeats 6400000 in
theorem IdentBack_walk (a : Int) (s : ByteArray) (w : World) (wa : (Lit.int .i64 a).wf = true) (hs : s.size ≤ 140737488351232) (hl : LibW w) : Calls Tryd.prog 9 #[.int .i64 a, .string s] w fun e w' => e = .returned (.bool true) ∧ Below w.heap.size w w' := by
  obtain ⟨a0, a1⟩ := bounds_i64 wa
  clear wa
  have HT := fun w' hp' => text_any a a0 a1 w' hp'
  have HP := fun w' hl' => parse_any s hs w' hl'
  have HQ := fun w' hl' => parse_any (textB a) (by have := textB_len a; omega) w' hl'
  by_cases hR : ∃ v, Reads s v
  · obtain ⟨v, hv⟩ := hR
    obtain ⟨p1, p2⟩ := parse_yes hv
    obtain ⟨t1, t2⟩ := text_reads hv
    rw [p1, p2] at HP
    have HT2 := fun w' hp' => text_any (v : Int) (by omega) (by have := hv.2.2; omega) w' hp'
    rw [t1, t2] at HT2
    have HP2 := Lib.hid HP
    have HT3 := Lib.hid HT2
    clear p1 p2 t1 t2 hv HP HT2
    rcases idE_ways a with hi | hi
    · have hb : 1 ≤ a ∧ a ≤ 2147483647 := by
        unfold idE at hi; split at hi
        · rename_i h2; exact h2
        · cases hi
      obtain ⟨u, rfl⟩ : ∃ u : Nat, a = (u : Int) := ⟨a.toNat, by omega⟩
      obtain ⟨q1, q2⟩ := parse_yes (reads_text (v := u) (by omega) (by omega))
      rw [hi] at HT
      rw [q1, q2] at HQ
      have HT1 := Lib.hid HT
      have HQ1 := Lib.hid HQ
      clear hi q1 q2 HT HQ
      generalize textB (u : Int) = z at *
      go_enter Tryd.func9, Tryd.ntmps9
      go_wp2_with (fail)
      refine (HT1.out _ hl.pow).mono ?_
      rintro e w1 ⟨rfl, hb1⟩
      have HB1 := Lib.hid hb1
      clear hb1
      go_wp2_with (fail)
      refine (HQ1.out _ (hl.below HB1.out)).mono ?_
      rintro e w2 ⟨rfl, hb2⟩
      have HB2 := Lib.hid (HB1.out.trans (hb2.mono HB1.out.size))
      clear hb2
      go_wp2_with (fail)
      refine (HP2.out _ (hl.below HB2.out)).mono ?_
      rintro e w3 ⟨rfl, hb3⟩
      have HB3 := Lib.hid (HB2.out.trans (hb3.mono HB2.out.size))
      clear hb3
      go_wp2_with (fail)
      refine (HT3.out _ (hl.pow.below HB3.out)).mono ?_
      rintro e w4 ⟨rfl, hb4⟩
      have HB4 := Lib.hid (HB3.out.trans (hb4.mono HB3.out.size))
      clear hb4
      go_wp2_with (fail)
      refine (awake_any _ (hl.pow.below HB4.out)).mono ?_
      rintro e w5 ⟨rfl, hb5⟩
      have HB5 := Lib.hid (HB4.out.trans (hb5.mono HB4.out.size))
      clear hb5
      go_wp2
      go_ret
      exact ⟨rfl, HB5.out⟩
    · rw [hi] at HT
      have HT1 := Lib.hid HT
      clear hi HT HQ
      generalize textB a = z at *
      go_enter Tryd.func9, Tryd.ntmps9
      go_wp2_with (fail)
      refine (HT1.out _ hl.pow).mono ?_
      rintro e w1 ⟨rfl, hb1⟩
      have HB1 := Lib.hid hb1
      clear hb1
      go_wp2_with (fail)
      refine (HP2.out _ (hl.below HB1.out)).mono ?_
      rintro e w2 ⟨rfl, hb2⟩
      have HB2 := Lib.hid (HB1.out.trans (hb2.mono HB1.out.size))
      clear hb2
      go_wp2_with (fail)
      refine (HT3.out _ (hl.pow.below HB2.out)).mono ?_
      rintro e w3 ⟨rfl, hb3⟩
      have HB3 := Lib.hid (HB2.out.trans (hb3.mono HB2.out.size))
      clear hb3
      go_wp2_with (fail)
      refine (awake_any _ (hl.pow.below HB3.out)).mono ?_
      rintro e w4 ⟨rfl, hb4⟩
      have HB4 := Lib.hid (HB3.out.trans (hb4.mono HB3.out.size))
      clear hb4
      go_wp2
      go_ret
      exact ⟨rfl, HB4.out⟩
  · obtain ⟨p1, p2⟩ := parse_no (s := s) (fun v h => hR ⟨v, h⟩)
    rw [p1, p2] at HP
    have HP2 := Lib.hid HP
    clear p1 p2 hR HP
    rcases idE_ways a with hi | hi
    · have hb : 1 ≤ a ∧ a ≤ 2147483647 := by
        unfold idE at hi; split at hi
        · rename_i h2; exact h2
        · cases hi
      obtain ⟨u, rfl⟩ : ∃ u : Nat, a = (u : Int) := ⟨a.toNat, by omega⟩
      obtain ⟨q1, q2⟩ := parse_yes (reads_text (v := u) (by omega) (by omega))
      rw [hi] at HT
      rw [q1, q2] at HQ
      have HT1 := Lib.hid HT
      have HQ1 := Lib.hid HQ
      clear hi q1 q2 HT HQ
      generalize textB (u : Int) = z at *
      go_enter Tryd.func9, Tryd.ntmps9
      go_wp2_with (fail)
      refine (HT1.out _ hl.pow).mono ?_
      rintro e w1 ⟨rfl, hb1⟩
      have HB1 := Lib.hid hb1
      clear hb1
      go_wp2_with (fail)
      refine (HQ1.out _ (hl.below HB1.out)).mono ?_
      rintro e w2 ⟨rfl, hb2⟩
      have HB2 := Lib.hid (HB1.out.trans (hb2.mono HB1.out.size))
      clear hb2
      go_wp2_with (fail)
      refine (HP2.out _ (hl.below HB2.out)).mono ?_
      rintro e w3 ⟨rfl, hb3⟩
      have HB3 := Lib.hid (HB2.out.trans (hb3.mono HB2.out.size))
      clear hb3
      go_wp2_with (fail)
      refine (awake_any _ (hl.pow.below HB3.out)).mono ?_
      rintro e w4 ⟨rfl, hb4⟩
      have HB4 := Lib.hid (HB3.out.trans (hb4.mono HB3.out.size))
      clear hb4
      go_wp2
      go_ret
      exact ⟨rfl, HB4.out⟩
    · rw [hi] at HT
      have HT1 := Lib.hid HT
      clear hi HT HQ
      generalize textB a = z at *
      go_enter Tryd.func9, Tryd.ntmps9
      go_wp2_with (fail)
      refine (HT1.out _ hl.pow).mono ?_
      rintro e w1 ⟨rfl, hb1⟩
      have HB1 := Lib.hid hb1
      clear hb1
      go_wp2_with (fail)
      refine (HP2.out _ (hl.below HB1.out)).mono ?_
      rintro e w2 ⟨rfl, hb2⟩
      have HB2 := Lib.hid (HB1.out.trans (hb2.mono HB1.out.size))
      clear hb2
      go_wp2_with (fail)
      refine (awake_any _ (hl.pow.below HB2.out)).mono ?_
      rintro e w3 ⟨rfl, hb3⟩
      have HB3 := Lib.hid (HB2.out.trans (hb3.mono HB2.out.size))
      clear hb3
      go_wp2
      go_ret
      exact ⟨rfl, HB3.out⟩

end Go.Proofs.YtfmookfiakfioaaDoor
