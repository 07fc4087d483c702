/- The walks of the reference's digits, number and Text. Conditions: the word fits 64 bits; the number fits an int64. -/
import Derived.Test.YtjcgachdnkdamaaDoorStx
import Derived.Test.YtjcgachdnkdamaaDoorPar
import Derived.Laws.IdiomStrings
namespace Go.Proofs.YtjcgachdnkdamaaDoor
open Go.RowKit Flt Go.Mem

def dig (d : Nat) : UInt8 := UInt8.ofNat (48 + d)
theorem byte_one (d : Nat) (hd : d < 10) (W : World) : (convert 62 9 (.slice (some ⟨W.heap.size, 0, none⟩) 1 1)).run Tryd.prog (W.alloc (.cells #[.int .u8 (48 + (d : Int))] 5)) = .ok (.string ⟨#[dig d]⟩) (W.alloc (.cells #[.int .u8 (48 + (d : Int))] 5)) := by
  refine run_convert_bytes_back _ _ _ _ _ 1 [dig d] Tryd.underlying62 Tryd.underlying5 Tryd.underlying9 ?_
  intro j hj
  have hj0 : j = 0 := by simpa using hj
  subst hj0
  have h1 : ([dig d] : List UInt8)[0].toNat = 48 + d := dig_toNat d hd
  rw [h1]
  first
    | go_simp
    | simp [World.cell?, Addr.add]
theorem dig_step (k d : Nat) (h9 : 9 < k) (hd : d = k % 10) : Lib.decDigits k = Lib.decDigits (k / 10) ++ [dig d] := by
  conv => lhs; rw [Lib.decDigits]
  rw [dif_neg (by omega), hd]; rfl
theorem dig_last (k : Nat) (h : k ≤ 9) : Lib.decDigits k = [dig k] := by
  rw [Lib.decDigits, dif_pos (by omega)]; rfl
theorem ba_cons (c : UInt8) (t : List UInt8) : (⟨#[c]⟩ : ByteArray) ++ ⟨t.toArray⟩ = ⟨(c :: t).toArray⟩ := by
  apply ByteArray.ext
  rw [ByteArray.data_append]
  simp
set_option maxHeartbeats 1600000 in
theorem digits_any (n : Nat) (hn : n ≤ 9223372036854775807) (w : World) : Calls Tryd.prog 39 #[.int .i64 (n : Int)] w fun e w' => e = .returned (.string (itoaB (n : Int))) ∧ Below w.heap.size w w' := by
  go_enter Tryd.func39, Tryd.ntmps39
  go_wp2_with (fail)
  go_loopw [0, 3] (fun i s wr => (∃ (k : Nat) (t : List UInt8), i = .int .i64 (k : Int) ∧ s = .string ⟨t.toArray⟩ ∧ k ≤ n ∧ t.length ≤ 30 ∧ Lib.decDigits n = Lib.decDigits k ++ t) ∧ Below w.heap.size w wr) (fun i _ _ => (intOf i).toNat)
  case atStart => exact ⟨⟨n, [], rfl, rfl, Nat.le_refl _, by simp, by simp⟩, Below.refl _ _⟩
  case round =>
    obtain ⟨⟨k, t, rfl, rfl, hk, ht, hd⟩, hbw⟩ := hrel
    have HD := Lib.hid hd
    have HB := Lib.hid hbw
    clear hd hbw
    have hlen : (⟨t.toArray⟩ : ByteArray).size ≤ 30 := by rw [ba_mk_size]; exact ht
    by_cases h9 : 9 < (k : Int)
    · obtain ⟨d, hd⟩ : ∃ d, d = k % 10 := ⟨_, rfl⟩
      have hd10 : d < 10 := by omega
      have e1 : (k : Int) % 10 = (d : Int) := by omega
      have hb1 := byte_one d hd10
      have hst := Lib.hid (dig_step k d (by omega) hd)
      clear hd
      go_wp2
      have hl := Lib.itoa_length_le (n : Int) (by omega) (by omega)
      rw [Lib.itoa_nonneg] at hl
      have e2 : Lib.decDigits n = Lib.decDigits (k / 10) ++ (dig d :: t) := by rw [HD.out, hst.out]; simp
      refine ⟨⟨⟨k / 10, dig d :: t, by congr 1, by rw [ba_cons], by omega, ?_, e2⟩, HB.out.alloc HB.out.size _⟩, by simp [intOf]; omega⟩
      rw [e2, List.length_append] at hl
      omega
    · have hb1 := byte_one k (by omega)
      go_wp2
      go_ret
      refine ⟨ret_str ?_, HB.out.alloc HB.out.size _⟩
      unfold itoaB
      rw [Lib.itoa_nonneg, HD.out, dig_last k (by omega), ba_cons]
      rfl
def padL (t : List UInt8) : List UInt8 := List.replicate (3 - t.length) 48 ++ t
theorem padL_step (t : List UInt8) (h : t.length < 3) : padL (48 :: t) = padL t := by
  unfold padL
  rw [List.length_cons]
  obtain ⟨j, hj⟩ : ∃ j, 3 - t.length = j + 1 := ⟨2 - t.length, by omega⟩
  have h2 : 3 - (t.length + 1) = j := by omega
  rw [hj, h2, List.replicate_succ', List.append_assoc]; rfl
theorem padB_eq (l : List UInt8) (h : l.length ≤ 3) : padB ⟨l.toArray⟩ = ⟨(padL l).toArray⟩ := by
  unfold padB padL
  apply ByteArray.ext
  rw [ByteArray.data_append, ba_mk_size]
  have h4 : l.length = 0 ∨ l.length = 1 ∨ l.length = 2 ∨ l.length = 3 := by omega
  have e : ((⟨#[48, 48, 48]⟩ : ByteArray).extract l.length 3).data = (List.replicate (3 - l.length) (48 : UInt8)).toArray := by
    rcases h4 with h4 | h4 | h4 | h4 <;> rw [h4] <;> decide +kernel
  rw [e]; simp
def strLeft (v : Value) : Nat := match v with
  | .string b => 3 - b.size
  | _ => 0
set_option maxHeartbeats 3200000 in
theorem rtextS_any (d : Nat) (_hd : d < 18446744073709551616) (w : World) : Calls Tryd.prog 13 #[.float .f64 d] w fun e w' => e = .returned (.string (textS d)) ∧ Below w.heap.size w w' := by
  cases h1 : isnan d
  · cases h2 : isPinf d
    · cases h3 : isNinf d
      · cases h4 : (fgt d 4786511204640096256 || feq d 4786511204640096256)
        · cases h5 : (flt d 14009883241494872064 || feq d 14009883241494872064)
          · have hr := small_of h1 h4 h5
            obtain ⟨n1, n2, n3, n4, n5⟩ := nS_ok hr
            have hop : ∀ t w, (binOp .mul t (.float .f64 d) (.float .f64 4652007308841189376)).run Tryd.prog w = .ok (.float .f64 (mulK d)) w := fun t w => run_float_arith w .mul t .f64 _ _ _ n1
            have hcv := conv_nS hr
            have HT : Hid (textS d = numS (nS d)) := Lib.hid (by unfold textS; rw [h1, h2, h3, h4, h5]; rfl)
            have hP : infW d 1 = false := h2
            have hN : infW d (-1) = false := h3
            clear n1 n3 hr
            obtain ⟨N, hN2⟩ : ∃ N, N = nS d := ⟨_, rfl⟩
            rw [← hN2] at n4 n5 hcv HT
            clear hN2
            obtain ⟨r, hr⟩ : ∃ r, r = N.natAbs % 1000 := ⟨_, rfl⟩
            obtain ⟨q, hq⟩ : ∃ q, q = N.natAbs / 1000 := ⟨_, rfl⟩
            have hrb : r < 1000 := by omega
            have hqb : q ≤ 4503599627371 := by omega
            have z4 := (dec_len3 r hrb).2.1
            have hS : Hid (numS N = (if N < 0 then ⟨#[45]⟩ else ⟨#[]⟩) ++ itoaB (q : Int) ++ ⟨#[46]⟩ ++ ⟨(padL (Lib.decDigits r)).toArray⟩) := Lib.hid (by
              rw [← padB_eq _ z4, hr, hq]; rfl)
            have zb : (itoaB (q : Int)).size ≤ 21 := by
              have := Lib.itoa_length_le (q : Int) (by omega) (by omega)
              unfold itoaB; rw [ba_mk_size]; exact this
            have zi : itoaB (r : Int) = ⟨(Lib.decDigits r).toArray⟩ := by unfold itoaB; rw [Lib.itoa_nonneg]
            obtain ⟨A, hA⟩ : ∃ A, A = N.natAbs := ⟨_, rfl⟩
            have e1 : (A : Int) % 1000 = (r : Int) := by omega
            have e2 : (A : Int) / 1000 = (q : Int) := by omega
            have e3 : IntKind.i64.wrap (q : Int) = (q : Int) := IntWalk.i64_in _ (by omega)
            have e4 := Int.tmod_eq_emod_of_nonneg (a := (A : Int)) (b := 1000) (by omega)
            clear hr hq
            by_cases hneg : N < 0
            · obtain rfl : N = -(A : Int) := by omega
              clear hA
              go_enter Tryd.func13, Tryd.ntmps13
              go_wp2_with (first | (go_at_call 28; refine (isnan_any _ _).mono ?_; rintro e w' ⟨rfl, rfl⟩) | (go_at_call 36; refine (isinfs_any _ _ _ (by decide) _hd).mono ?_; rintro e w' ⟨rfl, rfl⟩) | (go_at_call 37; refine (floor_any _ _ n2).mono ?_; rintro e w' ⟨rfl, rfl⟩))
              refine (digits_any r (by omega) _).mono ?_
              rw [zi]
              rintro e w1 ⟨rfl, hb1⟩
              have HB1 := Lib.hid hb1
              clear hb1
              go_wp2_with (fail)
              go_loopw [5] (fun s wr => (∃ t : List UInt8, s = .string ⟨t.toArray⟩ ∧ t.length ≤ 3 ∧ padL t = padL (Lib.decDigits r)) ∧ Below w1.heap.size w1 wr) (fun s _ => strLeft s)
              case atStart => exact ⟨⟨_, rfl, z4, rfl⟩, Below.refl _ _⟩
              case round =>
                obtain ⟨⟨t, rfl, ht, hpl⟩, hbw⟩ := hrel
                have HPL := Lib.hid hpl
                have HBW := Lib.hid hbw
                clear hpl hbw
                have hsz : (⟨t.toArray⟩ : ByteArray).size = t.length := ba_mk_size t
                by_cases h3' : t.length < 3
                · have hl3 : ((⟨t.toArray⟩ : ByteArray).size : Int) < 3 := by rw [hsz]; omega
                  have HSZ := Lib.hid hsz
                  clear hsz
                  go_wp2
                  refine ⟨⟨⟨48 :: t, by rw [ba_cons], by rw [List.length_cons]; omega, by rw [padL_step t h3', HPL.out]⟩, HBW.out⟩, ?_⟩
                  rw [ba_cons]
                  simp only [strLeft, ba_mk_size, List.length_cons]
                  omega
                · have hl3 : ¬ ((⟨t.toArray⟩ : ByteArray).size : Int) < 3 := by rw [hsz]; omega
                  have hl4 : (⟨t.toArray⟩ : ByteArray).size ≤ 3 := by rw [hsz]; omega
                  have HSZ := Lib.hid hsz
                  clear hsz
                  go_wp2_with (fail)
                  refine (digits_any q (by clear e1 e2 e3 e4; omega) _).mono ?_
                  rintro e w2 ⟨rfl, hb2⟩
                  have HB2 := Lib.hid hb2
                  clear hb2
                  go_wp2
                  go_ret
                  refine ⟨ret_str ?_, HB1.out.trans ((HBW.out.trans (HB2.out.mono HBW.out.size)).mono HB1.out.size)⟩
                  rw [HT.out, hS.out, ← HPL.out, if_pos (by omega)]
                  have e : padL t = t := by
                    have := HSZ.out
                    unfold padL
                    have h0 : 3 - t.length = 0 := by omega
                    rw [h0]; rfl
                  rw [e]
            · obtain rfl : N = (A : Int) := by omega
              clear hA
              go_enter Tryd.func13, Tryd.ntmps13
              go_wp2_with (first | (go_at_call 28; refine (isnan_any _ _).mono ?_; rintro e w' ⟨rfl, rfl⟩) | (go_at_call 36; refine (isinfs_any _ _ _ (by decide) _hd).mono ?_; rintro e w' ⟨rfl, rfl⟩) | (go_at_call 37; refine (floor_any _ _ n2).mono ?_; rintro e w' ⟨rfl, rfl⟩))
              refine (digits_any r (by omega) _).mono ?_
              rw [zi]
              rintro e w1 ⟨rfl, hb1⟩
              have HB1 := Lib.hid hb1
              clear hb1
              go_wp2_with (fail)
              go_loopw [5] (fun s wr => (∃ t : List UInt8, s = .string ⟨t.toArray⟩ ∧ t.length ≤ 3 ∧ padL t = padL (Lib.decDigits r)) ∧ Below w1.heap.size w1 wr) (fun s _ => strLeft s)
              case atStart => exact ⟨⟨_, rfl, z4, rfl⟩, Below.refl _ _⟩
              case round =>
                obtain ⟨⟨t, rfl, ht, hpl⟩, hbw⟩ := hrel
                have HPL := Lib.hid hpl
                have HBW := Lib.hid hbw
                clear hpl hbw
                have hsz : (⟨t.toArray⟩ : ByteArray).size = t.length := ba_mk_size t
                by_cases h3' : t.length < 3
                · have hl3 : ((⟨t.toArray⟩ : ByteArray).size : Int) < 3 := by rw [hsz]; omega
                  have HSZ := Lib.hid hsz
                  clear hsz
                  go_wp2
                  refine ⟨⟨⟨48 :: t, by rw [ba_cons], by rw [List.length_cons]; omega, by rw [padL_step t h3', HPL.out]⟩, HBW.out⟩, ?_⟩
                  rw [ba_cons]
                  simp only [strLeft, ba_mk_size, List.length_cons]
                  omega
                · have hl3 : ¬ ((⟨t.toArray⟩ : ByteArray).size : Int) < 3 := by rw [hsz]; omega
                  have hl4 : (⟨t.toArray⟩ : ByteArray).size ≤ 3 := by rw [hsz]; omega
                  have HSZ := Lib.hid hsz
                  clear hsz
                  go_wp2_with (fail)
                  refine (digits_any q (by clear e1 e2 e3 e4; omega) _).mono ?_
                  rintro e w2 ⟨rfl, hb2⟩
                  have HB2 := Lib.hid hb2
                  clear hb2
                  go_wp2
                  go_ret
                  refine ⟨ret_str ?_, HB1.out.trans ((HBW.out.trans (HB2.out.mono HBW.out.size)).mono HB1.out.size)⟩
                  rw [HT.out, hS.out, ← HPL.out, if_neg (by omega)]
                  have e : padL t = t := by
                    have := HSZ.out
                    unfold padL
                    have h0 : 3 - t.length = 0 := by omega
                    rw [h0]; rfl
                  rw [e]
          · have HT : Hid (textS d = ⟨#[45, 98, 105, 103]⟩) := Lib.hid (by unfold textS; rw [h1, h2, h3, h4, h5]; rfl)
            have hP : infW d 1 = _ := h2
            have hN : infW d (-1) = _ := h3
            go_enter Tryd.func13, Tryd.ntmps13
            go_wp2_with (first | (go_at_call 28; refine (isnan_any _ _).mono ?_; rintro e w' ⟨rfl, rfl⟩) | (go_at_call 36; refine (isinfs_any _ _ _ (by decide) _hd).mono ?_; rintro e w' ⟨rfl, rfl⟩))
            go_ret
            exact ⟨ret_str HT.out.symm, Below.refl _ _⟩
        · have HT : Hid (textS d = ⟨#[98, 105, 103]⟩) := Lib.hid (by unfold textS; rw [h1, h2, h3, h4]; rfl)
          have hP : infW d 1 = _ := h2
          have hN : infW d (-1) = _ := h3
          go_enter Tryd.func13, Tryd.ntmps13
          go_wp2_with (first | (go_at_call 28; refine (isnan_any _ _).mono ?_; rintro e w' ⟨rfl, rfl⟩) | (go_at_call 36; refine (isinfs_any _ _ _ (by decide) _hd).mono ?_; rintro e w' ⟨rfl, rfl⟩))
          go_ret
          exact ⟨ret_str HT.out.symm, Below.refl _ _⟩
      · have HT : Hid (textS d = ⟨#[45, 105, 110, 102]⟩) := Lib.hid (by unfold textS; rw [h1, h2, h3]; rfl)
        have hP : infW d 1 = _ := h2
        have hN : infW d (-1) = _ := h3
        go_enter Tryd.func13, Tryd.ntmps13
        go_wp2_with (first | (go_at_call 28; refine (isnan_any _ _).mono ?_; rintro e w' ⟨rfl, rfl⟩) | (go_at_call 36; refine (isinfs_any _ _ _ (by decide) _hd).mono ?_; rintro e w' ⟨rfl, rfl⟩))
        go_ret
        exact ⟨ret_str HT.out.symm, Below.refl _ _⟩
    · have HT : Hid (textS d = ⟨#[105, 110, 102]⟩) := Lib.hid (by unfold textS; rw [h1, h2]; rfl)
      have hP : infW d 1 = _ := h2
      go_enter Tryd.func13, Tryd.ntmps13
      go_wp2_with (first | (go_at_call 28; refine (isnan_any _ _).mono ?_; rintro e w' ⟨rfl, rfl⟩) | (go_at_call 36; refine (isinfs_any _ _ _ (by decide) _hd).mono ?_; rintro e w' ⟨rfl, rfl⟩))
      go_ret
      exact ⟨ret_str HT.out.symm, Below.refl _ _⟩
  · have HT : Hid (textS d = ⟨#[110, 97, 110]⟩) := Lib.hid (by unfold textS; rw [h1]; rfl)
    go_enter Tryd.func13, Tryd.ntmps13
    go_wp2_with (first | (go_at_call 28; refine (isnan_any _ _).mono ?_; rintro e w' ⟨rfl, rfl⟩) | (go_at_call 36; refine (isinfs_any _ _ _ (by decide) _hd).mono ?_; rintro e w' ⟨rfl, rfl⟩))
    go_ret
    exact ⟨ret_str HT.out.symm, Below.refl _ _⟩

end Go.Proofs.YtjcgachdnkdamaaDoor
