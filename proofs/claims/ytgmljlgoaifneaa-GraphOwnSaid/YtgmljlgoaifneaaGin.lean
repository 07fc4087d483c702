/- slices.Insert at the end of a row, at routers and at links. Conditions: as each theorem's hypotheses say. -/
import Derived.Test.YtgmljlgoaifneaaGdd
namespace Go.Proofs.Ytgmljlgoaifneaa
open Go.RowKit Flt Go.Mem Go.Lib
set_option linter.unusedVariables false

set_option maxHeartbeats 1600000
set_option maxRecDepth 100000
theorem own_cases {w : World} {base size n c : Nat} {e : TypeId} {A : Option Addr} {xs : List Value} (h : w.ownsRow base e size (.slice A n c) n xs) : (A = none ∧ n = 0 ∧ c = 0) ∨ (∃ g, A = some ⟨g, 0, none⟩ ∧ n ≤ c ∧ c ≤ maxLen) := by
  rcases h.2 with ⟨e1, e2⟩ | ⟨g, cap, cur, e1, _, _, h1, h2, _⟩
  · injection e1 with a b c2; exact .inl ⟨a, e2, c2⟩
  · injection e1 with a b c2; subst c2; exact .inr ⟨g, a, h1, h2⟩
theorem insN_end (A : Option Addr) (n c base g k : Nat) (xs cs : List Value) (w : World) (hown : w.ownsRow base 52 3 (.slice A n c) n xs) (hl : cs.length = 3) (hc : ∀ j u, cs[j]? = some u → w.cell? ⟨g, j, none⟩ = some u) (h1 : ∀ u ∈ cs, u.oneCell' = true) (hby : (n + 1) * 16 ≤ 140737488355328) (hb : base ≤ w.heap.size) :
    Calls Try.prog 87 #[.slice A n c, .int .i64 n, .slice (some ⟨g, 0, none⟩) 1 k] w fun e w' => ∃ A' c', e = .returned (.slice A' (n + 1) c') ∧ w'.ownsRow base 52 3 (.slice A' (n + 1) c') (n + 1) (xs ++ cs) ∧ w.grownBy w' (Value.slice A n c).ownBlock := by
  obtain ⟨iN, hiN, hzN0, hzN1, hzN2⟩ := info_partsG infoND
  have HC := Lib.hid hc
  have HOL := Lib.hid (fun k hk => (hown.lt k hk).1)
  clear hc
  rcases own_cases hown with ⟨rfl, rfl, rfl⟩ | ⟨g2, rfl, hnc, hcm⟩
  · go_enter Try.func87, Try.ntmps87
    go_wp2_with (at_builtin; refine wpList_append_own _ rfl (.tmp 23) (.tmp 24) _ rfl base 52 iN (.agg #[.int .i64 0, .bool false, .bool false]) 3 16 Try.underlying22 hiN hzN0 hzN1 hzN2 rfl (by decide) (.slice none 0 0) 0 xs rfl hown ⟨g, 0, none⟩ 1 k cs rfl (by rw [hl]) (fun j u hu => by rw [addAt, Nat.zero_add]; exact HC.out j u hu) h1 (by unfold maxLen; omega) hby hb ?_; intro v1 w1 hown1 hgrow1 _)
    obtain ⟨A1, c1, rfl⟩ := own_form hown1
    have HO := Lib.hid hown1
    have HB := Lib.hid hgrow1
    clear hown1 hgrow1 hown
    go_wp2_with (fail)
    go_ret
    exact ⟨_, _, rfl, HO.out, HB.out⟩
  · have hcm2 : c ≤ 9223372036854775807 := hcm
    clear hcm
    go_enter Try.func87, Try.ntmps87
    go_wp2_with (at_builtin; refine wpList_append_own _ rfl (.tmp 23) (.tmp 24) _ rfl base 52 iN (.agg #[.int .i64 0, .bool false, .bool false]) 3 16 Try.underlying22 hiN hzN0 hzN1 hzN2 rfl (by decide) (.slice (some ⟨g2, 0, none⟩) n c) n xs rfl hown ⟨g, 0, none⟩ 1 k cs rfl (by rw [hl]) (fun j u hu => by rw [addAt, Nat.zero_add]; exact HC.out j u hu) h1 (by unfold maxLen; omega) hby hb ?_; intro v1 w1 hown1 hgrow1 _)
    all_goals
      obtain ⟨A1, c1, rfl⟩ := own_form hown1
      have HO := Lib.hid hown1
      have HB := Lib.hid hgrow1
      clear hown1 hgrow1 hown
      go_wp2_with (fail)
      go_ret
      exact ⟨_, _, rfl, HO.out, HB.out⟩
theorem insL_end (A : Option Addr) (n c base g k : Nat) (xs cs : List Value) (w : World) (hown : w.ownsRow base 54 4 (.slice A n c) n xs) (hl : cs.length = 4) (hc : ∀ j u, cs[j]? = some u → w.cell? ⟨g, j, none⟩ = some u) (h1 : ∀ u ∈ cs, u.oneCell' = true) (hby : (n + 1) * 32 ≤ 140737488355328) (hb : base ≤ w.heap.size) :
    Calls Try.prog 89 #[.slice A n c, .int .i64 n, .slice (some ⟨g, 0, none⟩) 1 k] w fun e w' => ∃ A' c', e = .returned (.slice A' (n + 1) c') ∧ w'.ownsRow base 54 4 (.slice A' (n + 1) c') (n + 1) (xs ++ cs) ∧ w.grownBy w' (Value.slice A n c).ownBlock := by
  obtain ⟨iN, hiN, hzN0, hzN1, hzN2⟩ := info_partsG infoLK
  have HC := Lib.hid hc
  have HOL := Lib.hid (fun k hk => (hown.lt k hk).1)
  clear hc
  rcases own_cases hown with ⟨rfl, rfl, rfl⟩ | ⟨g2, rfl, hnc, hcm⟩
  · go_enter Try.func89, Try.ntmps89
    go_wp2_with (at_builtin; refine wpList_append_own _ rfl (.tmp 23) (.tmp 24) _ rfl base 54 iN (.agg #[.int .i64 0, .int .i64 0, .float .f64 0, .bool false]) 4 32 Try.underlying23 hiN hzN0 hzN1 hzN2 rfl (by decide) (.slice none 0 0) 0 xs rfl hown ⟨g, 0, none⟩ 1 k cs rfl (by rw [hl]) (fun j u hu => by rw [addAt, Nat.zero_add]; exact HC.out j u hu) h1 (by unfold maxLen; omega) hby hb ?_; intro v1 w1 hown1 hgrow1 _)
    obtain ⟨A1, c1, rfl⟩ := own_form hown1
    have HO := Lib.hid hown1
    have HB := Lib.hid hgrow1
    clear hown1 hgrow1 hown
    go_wp2_with (fail)
    go_ret
    exact ⟨_, _, rfl, HO.out, HB.out⟩
  · have hcm2 : c ≤ 9223372036854775807 := hcm
    clear hcm
    go_enter Try.func89, Try.ntmps89
    go_wp2_with (at_builtin; refine wpList_append_own _ rfl (.tmp 23) (.tmp 24) _ rfl base 54 iN (.agg #[.int .i64 0, .int .i64 0, .float .f64 0, .bool false]) 4 32 Try.underlying23 hiN hzN0 hzN1 hzN2 rfl (by decide) (.slice (some ⟨g2, 0, none⟩) n c) n xs rfl hown ⟨g, 0, none⟩ 1 k cs rfl (by rw [hl]) (fun j u hu => by rw [addAt, Nat.zero_add]; exact HC.out j u hu) h1 (by unfold maxLen; omega) hby hb ?_; intro v1 w1 hown1 hgrow1 _)
    all_goals
      obtain ⟨A1, c1, rfl⟩ := own_form hown1
      have HO := Lib.hid hown1
      have HB := Lib.hid hgrow1
      clear hown1 hgrow1 hown
      go_wp2_with (fail)
      go_ret
      exact ⟨_, _, rfl, HO.out, HB.out⟩

end Go.Proofs.Ytgmljlgoaifneaa
