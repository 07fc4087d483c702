/- What of the library's variables the walks of Parse lean on, kept over whatever makes memory; the library's readers of numerals by their ends. Conditions: the strings' bounds. -/
import Derived.Test.YtcpbanekjncekaaDoorTew
import Derived.Test.YtcpbanekjncekaaDoorPar
import Derived.Test.YtcpbanekjncekaaDoorMap
namespace Go.Proofs.YtcpbanekjncekaaDoor
open Go.RowKit Flt Go.Mem

/-- the library's variables that are read: a table, a number, two sentinels -/
structure LibW (w : World) : Prop where make ::
  pow : Pow10 w
  mx : ∃ m, w.cell? ⟨2, 0, none⟩ = some (.int .i64 m)
  es : ∃ tp p, w.var? Tryd.prog "strconv.ErrSyntax" = some #[.iface tp p]
  er : ∃ tp p, w.var? Tryd.prog "strconv.ErrRange" = some #[.iface tp p]
theorem gES : Tryd.prog.globalNamed "strconv.ErrSyntax" = some 3 := by kernel_rfl
theorem gER : Tryd.prog.globalNamed "strconv.ErrRange" = some 4 := by kernel_rfl
theorem LibW.below {w w' : World} (h : LibW w) (hb : Below w.heap.size w w') : LibW w' := by
  obtain ⟨h1, ⟨m, h2⟩, ⟨tp, p, h3⟩, ⟨tq, q, h4⟩⟩ := h
  refine ⟨h1.below hb, ⟨m, ?_⟩, ⟨tp, p, ?_⟩, ⟨tq, q, ?_⟩⟩
  · rw [hb.cell (p := ⟨_, 0, none⟩) (World.block_lt_of_cell? w _ h2)]; exact h2
  · have hc := World.var?_cell gES h3 0
    exact var?_below hb gES (World.block_lt_of_cell? w ⟨3, 0, none⟩ (by rw [hc]; rfl)) h3
  · have hc := World.var?_cell gER h4 0
    exact var?_below hb gER (World.block_lt_of_cell? w ⟨4, 0, none⟩ (by rw [hc]; rfl)) h4
theorem puint_ok (s : ByteArray) (hs : s.size ≤ 281474976710656) (u : Nat) (h : Lib.parseUintB 64 s.data.toList = .ok u) (w : World) :
    Calls Tryd.prog 23 #[.string s, .int .i64 10, .int .i64 64] w fun e w' => e = .returned (.tuple #[.int .u64 (u : Int), .nilIface]) ∧ Below w.heap.size w w' :=
  (Any.strconv_ParseUint_10_at64_ok Tryd.laysPu14 s (by omega) u h w).mono fun e w' ⟨he, hw⟩ => ⟨he, by
    rcases hw with hw | hw
    · rw [hw]; exact Below.refl _ _
    · rw [hw]; exact Lib.bytesWorld_below _ _ _⟩
/-- its post where it fails: some number, and an error -/
def BadU (w : World) (e : Ending) (w' : World) : Prop := (∃ (x : Int) (t : TypeId) (p : Value), e = .returned (.tuple #[.int .u64 x, .iface t p])) ∧ Below w.heap.size w w'
theorem puint_bad (s : ByteArray) (hs : s.size ≤ 281474976710656) (h : ∀ u, Lib.parseUintB 64 s.data.toList ≠ .ok u) (w : World) (hl : LibW w) :
    Calls Tryd.prog 23 #[.string s, .int .i64 10, .int .i64 64] w (BadU w) := by
  obtain ⟨tp, p, h3⟩ := hl.es
  obtain ⟨tq, q, h4⟩ := hl.er
  cases hc : Lib.parseUintB 64 s.data.toList
  · exact absurd hc (h _)
  · exact (Any.strconv_ParseUint_10_at64_syntax_var Tryd.laysPu14 s hs hc tp p w h3).mono fun e w' ⟨N, he, _, _, hb⟩ => ⟨⟨_, _, _, he⟩, hb⟩
  · exact (Any.strconv_ParseUint_10_at64_range_var Tryd.laysPu14 s hs hc tq q w h4).mono fun e w' ⟨N, he, _, _, hb⟩ => ⟨⟨_, _, _, he⟩, hb⟩
/-- ParseInt's number, whatever the end -/
def intV (l : List UInt8) : Int := match Lib.parseIntB 64 l with
  | .ok v => v
  | .range => Lib.intSat 64 l
  | _ => 0
def IntE (v : Int) (w : World) (e : Ending) (w' : World) : Prop := (∃ ev : Value, e = .returned (.tuple #[.int .i64 v, ev])) ∧ Below w.heap.size w w'
theorem pint_any (s : ByteArray) (hs : s.size ≤ 281474976710656) (w : World) (hl : LibW w) :
    Calls Tryd.prog 25 #[.string s, .int .i64 10, .int .i64 64] w (IntE (intV s.data.toList) w) := by
  obtain ⟨tp, p, h3⟩ := hl.es
  obtain ⟨tq, q, h4⟩ := hl.er
  unfold intV
  cases hc : Lib.parseIntB 64 s.data.toList
  · exact (Any.strconv_ParseInt_10_at64_ok Tryd.laysC174 s (by omega) _ hc w).mono fun e w' ⟨he, hw⟩ => ⟨⟨_, he⟩, by
      rcases hw with hw | ⟨t, hw⟩
      · rw [hw]; exact Below.refl _ _
      · rw [hw]; exact Lib.bytesWorld_below _ _ _⟩
  · exact (Any.strconv_ParseInt_10_at64_syntax_var Tryd.laysC174 s hs hc tp p w h3).mono fun e w' ⟨N, he, _, _, hb⟩ => ⟨⟨_, he⟩, hb⟩
  · exact (Any.strconv_ParseInt_10_at64_range_var Tryd.laysC174 s hs hc tq q w h4).mono fun e w' ⟨N, he, _, _, hb⟩ => ⟨⟨_, he⟩, hb⟩
theorem cut_any (s sep : ByteArray) (w : World) (hl : LibW w) (hs : s.size < 4294967281) :
    Calls Tryd.prog 22 #[.string s, .string sep] w fun e w' => e = .returned (.tuple #[.string ⟨(Lib.cut s.data.toList sep.data.toList).1.toArray⟩, .string ⟨(Lib.cut s.data.toList sep.data.toList).2.1.toArray⟩, .bool (Lib.cut s.data.toList sep.data.toList).2.2]) ∧ ∃ n, w' = w.drewN n :=
  let ⟨m, hm⟩ := hl.mx
  Tryd.strings_Cut s sep m w hs hm

end Go.Proofs.YtcpbanekjncekaaDoor
