/-
  What is laid: the table of strconv.Itoa, the library's two errors, its variable MaxLen; the program's readNum; strings.Split at one byte.
-/
import Derived.Lib.AtoiErrMem
import Derived.Test.YtddjgbhkfdpffaaGreatDoorWPlR2
import Derived.Test.YtddjgbhkfdpffaaGreatDoorWJoined
set_option linter.unusedVariables false
set_option linter.unusedSimpArgs false
namespace Go.Proofs.YtddjgbhkfdpffaaGreatDoor
open Go.ChangeShapes Go.WideShapes Go.ChangeAt Go.RowKit

/-- an error lies in the variable's cell -/
def ErrAt (w : World) (g : Nat) : Prop := ∃ ev, w.cell? ⟨g, 0, none⟩ = some ev ∧ (ev = .nilIface ∨ ∃ te pe, ev = .iface te pe)
structure Lay (w : World) : Prop where
  tab : Tab w
  syn : ErrAt w 1
  rng : ErrAt w 2
  max : ∃ m, w.cell? ⟨3, 0, none⟩ = some (.int .i64 m)
theorem ErrAt.lt {w : World} {g : Nat} (h : ErrAt w g) : g < w.heap.size := by
  obtain ⟨ev, h, _⟩ := h
  exact cell_lt h
theorem ErrAt.low {B : Nat} {w w' : World} {g : Nat} (h : ErrAt w g) (hb : Below B w w') (hB : g < B) : ErrAt w' g := by
  obtain ⟨ev, h, k⟩ := h
  exact ⟨ev, (hb.cell (p := ⟨g, 0, none⟩) hB).trans h, k⟩
theorem Lay.low {B : Nat} {w w' : World} (h : Lay w) (hb : Below B w w') (hB : 7 < B) : Lay w' where
  tab := h.tab.low hb (by omega)
  syn := h.syn.low hb (by omega)
  rng := h.rng.low hb (by omega)
  max := by
    obtain ⟨m, hm⟩ := h.max
    exact ⟨m, (hb.cell (p := ⟨3, 0, none⟩) (show 3 < B by omega)).trans hm⟩
theorem Lay.below {w w' : World} (h : Lay w) (hb : Below w.heap.size w w') : Lay w' where
  tab := h.tab.below hb
  syn := h.syn.low hb h.syn.lt
  rng := h.rng.low hb h.rng.lt
  max := by
    obtain ⟨m, hm⟩ := h.max
    exact ⟨m, (hb.cell (p := ⟨3, 0, none⟩) (cell_lt hm)).trans hm⟩
theorem toList_data (s : ByteArray) : s.toList = s.data.toList := ByteArray.toList_eq ..
theorem below_bytes (w : World) (e : TypeId) (s : ByteArray) : Below w.heap.size w (Lib.bytesWorld w e s) := Lib.bytesWorld_below w e s
set_option maxRecDepth 100000 in
set_option maxHeartbeats 1000000 in
theorem readNum_any (s : ByteArray) (w : World) (hs : s.size ≤ 1048576) (hl : Lay w) :
    Calls Tryz.prog 142 #[.string s] w fun e w' => (∃ n : Int, e = .returned (.tuple #[.int .i64 n, .bool (numOf s).isSome]) ∧ (-9223372036854775808 ≤ n ∧ n ≤ 9223372036854775807) ∧ (∀ z, numOf s = some z → n = z)) ∧ Below w.heap.size w w' := by
  cases ha : Lib.atoiAll s.data.toList with
  | ok v =>
    have HC := hide (Tryz.strconv_Atoi_ok s (by omega) v ha w)
    obtain ⟨v0, v1⟩ := Lib.atoiAll_bounds ha
    have HL := hide hl
    by_cases he : (dec v).toList = s.toList
    · have hd : dec v = s := bytes_inj (by rw [← toList_data, ← toList_data, he])
      have HN := hide (numOf_some ⟨v0, v1, hd⟩)
      have e1 : ((dec v).toList == s.toList) = true := by simpa using he
      clear ha hl he hd
      go_enter Tryz.func142, Tryz.ntmps142
      go_wp2_with fail
      refine HC.out.mono ?_
      rintro e w2 ⟨rfl, hw2⟩
      have hb2 : Below w.heap.size w w2 := by
        rcases hw2 with rfl | ⟨t, rfl⟩
        · exact Below.refl _ _
        · exact below_bytes _ _ _
      have HB := hide hb2
      have HL2 := hide (HL.out.below hb2)
      clear hw2 hb2 HC
      go_wp2_with fail
      refine (itoa_any v v0 v1 _ HL2.out.tab).mono ?_
      rintro e w3 ⟨rfl, hb3⟩
      go_wp2
      go_ret2
      exact ⟨⟨v, by rw [HN.out]; rfl, ⟨v0, v1⟩, fun z hz => by rw [HN.out] at hz; injection hz⟩, HB.out.trans (hb3.mono HB.out.size)⟩
    · have HN := hide (numOf_none (s := s) (fun z hz => he (by
        have h1 := hz.atoi
        rw [ha] at h1
        injection h1 with h1
        rw [h1, hz.2.2])))
      have e1 : ((dec v).toList == s.toList) = false := by simpa using he
      clear ha hl he
      go_enter Tryz.func142, Tryz.ntmps142
      go_wp2_with fail
      refine HC.out.mono ?_
      rintro e w2 ⟨rfl, hw2⟩
      have hb2 : Below w.heap.size w w2 := by
        rcases hw2 with rfl | ⟨t, rfl⟩
        · exact Below.refl _ _
        · exact below_bytes _ _ _
      have HB := hide hb2
      have HL2 := hide (HL.out.below hb2)
      clear hw2 hb2 HC
      go_wp2_with fail
      refine (itoa_any v v0 v1 _ HL2.out.tab).mono ?_
      rintro e w3 ⟨rfl, hb3⟩
      go_wp2
      go_ret2
      exact ⟨⟨v, by rw [HN.out]; rfl, ⟨v0, v1⟩, fun z hz => by rw [HN.out] at hz; cases hz⟩, HB.out.trans (hb3.mono HB.out.size)⟩
  | «syntax» =>
    obtain ⟨ev, hv, hev⟩ := hl.syn
    have HC := hide (Tryz.strconv_Atoi_syntax s (by omega) ha ev w hv hev)
    have HN := hide (numOf_none (s := s) (fun z hz => by
      have h1 := hz.atoi
      rw [ha] at h1
      cases h1))
    clear ha hl hv hev
    go_enter Tryz.func142, Tryz.ntmps142
    go_wp2_with fail
    refine HC.out.mono ?_
    rintro e w2 ⟨N, rfl, hN, hN2, hb2⟩
    have HB := hide hb2
    clear hN hN2 hb2
    go_wp2
    go_ret2
    exact ⟨⟨0, by rw [HN.out]; rfl, ⟨by decide, by decide⟩, fun z hz => by rw [HN.out] at hz; cases hz⟩, HB.out⟩
  | range =>
    obtain ⟨ev, hv, hev⟩ := hl.rng
    have HC := hide (Tryz.strconv_Atoi_range s (by omega) ha ev w hv hev)
    obtain ⟨v0, v1⟩ := Lib.atoiSat_bounds s.data.toList
    have HN := hide (numOf_none (s := s) (fun z hz => by
      have h1 := hz.atoi
      rw [ha] at h1
      cases h1))
    generalize Lib.atoiSat s.data.toList = v at *
    clear ha hl hv hev
    go_enter Tryz.func142, Tryz.ntmps142
    go_wp2_with fail
    refine HC.out.mono ?_
    rintro e w2 ⟨N, rfl, hN, hN2, hb2⟩
    have HB := hide hb2
    clear hN hN2 hb2
    go_wp2
    go_ret2
    exact ⟨⟨v, by rw [HN.out]; rfl, ⟨v0, v1⟩, fun z hz => by rw [HN.out] at hz; cases hz⟩, HB.out⟩
/-- a text cut at a byte: what the slice holds -/
theorem split_any (s : ByteArray) (c : UInt8) (w : World) (hs : s.size ≤ 1048576) (hl : Lay w) :
    Calls Tryz.prog 143 #[.string s, .string ⟨#[c]⟩] w fun e w' => ∃ g, e = .returned (.slice (some ⟨g, 0, none⟩) (cutB c s).length (cutB c s).length) ∧ Row w' g 9 ((cutB c s).map fun x => .string x) ∧ Below w.heap.size w w' ∧ g = w.heap.size := by
  obtain ⟨m, hm⟩ := hl.max
  refine (Tryz.strings_Split s ⟨#[c]⟩ m w (by omega) hm (Nat.le_refl 1)).mono ?_
  rintro e w' ⟨rfl, rfl⟩
  refine ⟨w.heap.size, by rw [cutB_len], ?_, (Below.refl _ _).alloc (Nat.le_refl _) _, rfl⟩
  have h := Row.new w 9 ((cutB c s).map fun x => .string x)
  exact h
end Go.Proofs.YtddjgbhkfdpffaaGreatDoor
