/- graph.apply, whatever the change. Conditions: as each theorem's hypotheses say. -/
import Derived.Test.YtgmljlgoaifneaaGya
import Derived.Test.YtgmljlgoaifneaaGyb
import Derived.Test.YtgmljlgoaifneaaGyc
import Derived.Test.YtgmljlgoaifneaaGyd
namespace Go.Proofs.Ytgmljlgoaifneaa
open Go.RowKit Flt Go.Mem Go.Lib
set_option linter.unusedVariables false
theorem apply_any (A A2 : Option Addr) (n c m c2 base : Nat) (k a b : Int) (x : Nat) (ns : List Nd) (ls : List Lk) (w : World) (hn : w.ownsRow base 52 3 (.slice A n c) n (ns.flatMap ndC)) (hl : w.ownsRow base 54 4 (.slice A2 m c2) m (ls.flatMap lkC)) (hb : base ≤ w.heap.size) (hG : Good ns ls) (hx64 : x < 18446744073709551616) :
    Calls Try.prog 33 #[.agg #[.slice A n c, .slice A2 m c2], .agg #[.int .i64 k, .int .i64 a, .int .i64 b, .float .f64 x]] w (APost base A A2 n c m c2 (apE ns ls k a b x) (apN ns ls k a b x) (apL ns ls k a b x) w) := by
  by_cases hk : 1 ≤ k ∧ k ≤ 9
  · have h : k = 1 ∨ k = 2 ∨ k = 3 ∨ k = 4 ∨ k = 5 ∨ k = 6 ∨ k = 7 ∨ k = 8 ∨ k = 9 := by omega
    rcases h with rfl | rfl | rfl | rfl | rfl | rfl | rfl | rfl | rfl
    · exact apply1_any A A2 n c m c2 base a b x ns ls w hn hl hb hG hx64 _ _ _ rfl rfl rfl
    · exact apply2_any A A2 n c m c2 base a b x ns ls w hn hl hb hG hx64 _ _ _ rfl rfl rfl
    · exact apply3_any A A2 n c m c2 base a b x ns ls w hn hl hb hG hx64 _ _ _ rfl rfl rfl
    · exact apply4_any A A2 n c m c2 base a b x ns ls w hn hl hb hG hx64 _ _ _ rfl rfl rfl
    · exact apply5_any A A2 n c m c2 base a b x ns ls w hn hl hb hG hx64 _ _ _ rfl rfl rfl
    · exact apply6_any A A2 n c m c2 base a b x ns ls w hn hl hb hG hx64 _ _ _ rfl rfl rfl
    · exact apply7_any A A2 n c m c2 base a b x ns ls w hn hl hb hG hx64 _ _ _ rfl rfl rfl
    · exact apply8_any A A2 n c m c2 base a b x ns ls w hn hl hb hG hx64 _ _ _ rfl rfl rfl
    · exact apply9_any A A2 n c m c2 base a b x ns ls w hn hl hb hG hx64 _ _ _ rfl rfl rfl
  · have hbare : bareB k b x = false := by
      cases h : bareB k b x
      · rfl
      · exact absurd (bareB_kind h) hk
    rw [(ap_bad hbare).1, (ap_bad hbare).2.1, (ap_bad hbare).2.2]
    exact apply0_any A A2 n c m c2 base k a b x ns ls w hn hl hb hk
end Go.Proofs.Ytgmljlgoaifneaa
