/-
  strings.IndexAny at some ASCII marks, in any text: the walks.
-/
import Derived.StillTailTactics
import Derived.WalkMore
import Derived.Deep.LoopGhost
import Derived.Lib.OthersKept
import Derived.Test.YtnaecdoeldoipaaGreatDoorKMarks
set_option linter.unusedVariables false
set_option linter.unusedSimpArgs false
namespace Go.Proofs.YtnaecdoeldoipaaGreatDoor
open Go.ChangeShapes Go.WideShapes Go.ChangeAt Go.RowKit

def Ascii (s : ByteArray) : Prop := ∀ x ∈ bl s, x.toNat < 128
theorem Ascii.at {s : ByteArray} (h : Ascii s) (i : Nat) (hi : i < s.size) : (s[i]'hi).toNat < 128 := by
  have := h ((bl s)[i]'(by rw [bl_len]; exact hi)) (List.getElem_mem _)
  rwa [bl_get s i hi] at this
set_option maxRecDepth 100000 in
set_option maxHeartbeats 2000000 in
theorem indexRune_high (s : ByteArray) (hs : s.size ≤ 1048576) (ha : Ascii s) (r : Int) (h0 : 128 ≤ r) (h1 : r ≤ 2147483647) (w : World) :
    Calls Tryz.prog 149 #[.string s, .int .i32 r] w fun e w' => e = .returned (.int .i64 (-1)) ∧ Below w.heap.size w w' := by
  have HA := hide ha
  have d0 : decide ((0 : Int) ≤ r) = true := decide_eq_true (by omega)
  have d1 : decide (r < 128) = false := decide_eq_false (by omega)
  obtain ⟨hen1, hen2, hen3⟩ := encode_high r h0
  have HE := hide hen3
  clear ha hen3
  by_cases hr : r = 65533
  · have d2 : (r == 65533) = true := beq_iff_eq.2 hr
    go_enter Tryz.func149, Tryz.ntmps149
    go_wp2
    go_loopg [5, 6] s.size (fun g _ _ wx => ∃ i : Nat, i + g = s.size ∧ wx = w.iter s i)
    case atStart => exact ⟨0, by omega, rfl⟩
    case round =>
      obtain ⟨i, hig, rfl⟩ := hrel
      cases gk with
      | zero =>
        obtain rfl : i = s.size := by omega
        have hnx := run_next_end (P := Tryz.prog) w s s.size
        go_wp2
        go_ret
        exact ⟨rfl, (Below.refl _ _).alloc (Nat.le_refl _) _⟩
      | succ g =>
        have hi : i < s.size := by omega
        have hx128 := HA.out.at i hi
        have hnx := fun ty => run_next_ascii (P := Tryz.prog) w s i ty hi hx128
        obtain ⟨x, hx⟩ : ∃ x, s[i]'hi = x := ⟨_, rfl⟩
        rw [hx] at hnx hx128
        clear hx
        have hne : (((x.toNat : Int)) == 65533) = false := beq_eq_false_iff_ne.2 (by omega)
        go_wp2
        go_roundg g
        case measure => omega
        case rel => exact ⟨i + 1, by omega, rfl⟩
  · have d2 : (r == 65533) = false := beq_eq_false_iff_ne.2 hr
    have HV := hide (Tryz.utf8_ValidRune r)
    clear hr
    go_enter Tryz.func149, Tryz.ntmps149
    go_wp2_with fail
    refine (HV.out _).mono ?_
    rintro e w2 ⟨rfl, rfl⟩
    cases Lib.validRune r
    · go_wp2
      go_ret
      exact ⟨rfl, Below.refl _ _⟩
    · obtain ⟨m, hm⟩ : ∃ m : Nat, (Utf8.encode r).size = m + 1 := ⟨(Utf8.encode r).size - 1, by omega⟩
      have hwm : IntKind.i64.wrap (((Utf8.encode r).size : Int) - 1) = (m : Int) := by
        rw [hm, show (((m + 1 : Nat) : Int) - 1) = (m : Int) by omega]
        exact wrapI _ (by omega) (by omega)
      have hbm : (m : Int) < ((Utf8.encode r).size : Int) := by omega
      have hbm0 : (0 : Int) ≤ (m : Int) := by omega
      have HM := hide hm
      clear hm hen1 hen2
      have hcv := fun (u : World) => run_convert_int_string (P := Tryz.prog) u 21 9 .i32 r (by kernel_rfl) (by kernel_rfl)
      go_wp2
      go_step3
      go_wp2
      go_loopw [9, 10] (fun v9 v10 wz => v9 = .int .i64 (m : Int) ∧ v10 = .int .i64 0 ∧ wz = w2) (fun _ _ _ => 0)
      case atStart => exact ⟨rfl, rfl, rfl⟩
      case round =>
        obtain ⟨rfl, rfl, rfl⟩ := hrel
        by_cases hlt : m < s.size
        · have hlt2 : decide ((m : Int) < (s.size : Int)) = true := decide_eq_true (by omega)
          have hlt3 : (m : Int) < (s.size : Int) := by omega
          have hx1 : (s[m]'hlt).toNat < 128 := HA.out.at m hlt
          have hy1 : 128 ≤ ((Utf8.encode r)[m]'(by rw [HM.out]; omega)).toNat := by
            have h := HE.out ((bl (Utf8.encode r))[m]'(by rw [bl_len, HM.out]; omega)) (List.getElem_mem _)
            rwa [bl_get (Utf8.encode r) m (by rw [HM.out]; omega)] at h
          obtain ⟨x, hx⟩ : ∃ x, s[m]'hlt = x := ⟨_, rfl⟩
          obtain ⟨y, hy⟩ : ∃ y, (Utf8.encode r)[m]'(by rw [HM.out]; omega) = y := ⟨_, rfl⟩
          rw [hx] at hx1
          rw [hy] at hy1
          have hne : (((x.toNat : Int)) != ((y.toNat : Int))) = true := by
            rw [bne_iff_ne]
            omega
          go_wp2
          go_step3
          go_wp2
          go_region
          have hw1 : IntKind.i64.wrap ((m : Int) + 1) = (m : Int) + 1 := wrapI _ (by omega) (by omega)
          have hm1 : (m : Int) + 1 ≤ (s.size : Int) := by omega
          have hm0 : (0 : Int) ≤ (m : Int) + 1 := by omega
          have HIB := hide (fun (u : World) => show Calls Tryz.prog 68 #[.string (s.extract (m + 1) s.size), .int .u8 (y.toNat : Int)] u fun e w' => e = .returned (.int .i64 (-1)) ∧ w' = u from by
            have h := Tryz.strings_IndexByte (s.extract (m + 1) s.size) (y.toNat : Int) u
            rwa [Int.toNat_natCast, show y.toNat.toUInt8 = y by simp, indexByte_high (s.extract (m + 1) s.size).data.toList y (fun z hz => HA.out z (by
              have e := Lib.extract_data s (m + 1) s.size
              rw [e] at hz
              exact List.mem_of_mem_drop (List.mem_of_mem_take hz))) hy1] at h)
          go_wp2
          go_region_with (first | (go_simp; go_at_call 68; refine (HIB.out _).mono ?_; rintro e w6 ⟨rfl, rfl⟩))
          all_goals
            go_wp2
            simp (config := {zetaDelta := true}) only [Exit.noGoto_ret, Exit.inBlock, Exit.then]
            go_ret
            exact ⟨rfl, (Below.refl _ _).drew.drew⟩
        · have hlt2 : decide ((m : Int) < (s.size : Int)) = false := decide_eq_false (by omega)
          go_wp2_with fail
          rw [Exit.noGoto_ret]
          go_ret
          exact ⟨rfl, Below.refl _ _⟩
theorem noAny_high {s : ByteArray} {m : List UInt8} (hm : ∀ x ∈ m, x.toNat < 128) {i j : Nat} (h : Lib.NoAny s.data.toList m i) (hj : ∀ k, i ≤ k → k < j → ∃ hk : k < s.size, 128 ≤ (s[k]'hk).toNat) : Lib.NoAny s.data.toList m j := by
  intro k b hk hb
  by_cases h1 : k < i
  · exact h k b h1 hb
  · obtain ⟨hk2, h2⟩ := hj k (by omega) hk
    have e : s.data.toList[k]? = some (s[k]'hk2) := Lib.data_getElem? s k hk2
    rw [e] at hb
    injection hb with hb
    subst hb
    rw [Bool.eq_false_iff]
    intro hc
    have := hm _ (by simpa using hc)
    omega
set_option maxRecDepth 100000 in
set_option maxHeartbeats 2000000 in
theorem indexAny_short (s m : ByteArray) (hs : s.size ≤ 8) (hm2 : 2 ≤ m.size) (hms : m.size ≤ 1048576) (hm : Ascii m) (w : World) :
    Calls Tryz.prog 139 #[.string s, .string m] w fun e w' => e = .returned (.int .i64 (Lib.indexAny s.data.toList m.data.toList)) ∧ Below w.heap.size w w' := by
  have hemp : m.toList.isEmpty = false := by
    rw [Lib.toList_data]
    cases h : m.data.toList with
    | nil => have := Lib.size_eq m; rw [h, List.length_nil] at this; omega
    | cons _ _ => rfl
  have hn1 : ((m.size : Int) == 1) = false := beq_eq_false_iff_ne.2 (by omega)
  have HSA := hide (fun (u : World) => show Calls Tryz.prog 150 #[.int .i64 (s.size : Int)] u fun e w' => e = .returned (.bool false) ∧ w' = u from by
    have h := Tryz.strings_shouldUseASCIISet (s.size : Int) u
    rwa [decide_eq_false (show ¬ (8 : Int) < (s.size : Int) by omega)] at h)
  have HM := hide hm
  have HIH := hide (fun (r : Int) (h0 : 128 ≤ r) (h1 : r ≤ 2147483647) (u : World) => indexRune_high m hms hm r h0 h1 u)
  clear hm
  go_enter Tryz.func139, Tryz.ntmps139
  go_wp2_with fail
  refine (HSA.out _).mono ?_
  rintro e w' ⟨rfl, hw⟩
  rw [hw]
  clear hw w'
  go_wp2
  go_loopg [9, 10] s.size (fun g _ _ wx => ∃ i p : Nat, i + g = s.size ∧ p = w.heap.size ∧ wx.heap[p]? = some (.stringIter s i) ∧ Below p w wx ∧ Lib.NoAny s.data.toList m.data.toList i)
  case atStart => exact ⟨0, _, by omega, rfl, World.iter_heap w s 0, (Below.refl _ _).alloc (Nat.le_refl _) _, Lib.NoAny.zero _ _⟩
  case round =>
    obtain ⟨i, p, hig, rfl, hit, hbw, hno⟩ := hrel
    have HN := hide hno
    have HB := hide hbw
    clear hno hbw
    cases gk with
    | zero =>
      obtain rfl : i = s.size := by omega
      have hnx := fun ty => Lib.run_next_end_at (P := Tryz.prog) wr w.heap.size s s.size ty hit (by omega)
      go_wp2
      go_ret
      exact ⟨by rw [Lib.indexAny_none (by rw [← Lib.size_eq]; exact HN.out)]; rfl, HB.out⟩
    | succ g =>
      have hi : i < s.size := by omega
      obtain ⟨x, hx⟩ : ∃ x : UInt8, s[i]'hi = x := ⟨_, rfl⟩
      have hxl : s.data.toList[i]? = some x := by rw [← hx]; exact Lib.data_getElem? s i hi
      have Hx := hide hxl
      by_cases ha : x.toNat < 128
      · have hnx := fun ty => Lib.run_next_ascii_at (P := Tryz.prog) wr w.heap.size s i ty hit hi (by rw [hx]; exact ha)
        rw [hx] at hnx
        clear hx hxl
        have HIT := hide (Lib.iterAt_heap wr w.heap.size s i (i + 1) hit)
        have HB2 := hide (Lib.below_iterAt HB.out (Nat.le_refl _) s (i + 1))
        have hcon := Lib.contains_iff_indexByte m.data.toList x
        have HIR := hide (fun (u : World) => show Calls Tryz.prog 149 #[.string m, .int .i32 (x.toNat : Int)] u fun e w' => e = .returned (.int .i64 (Lib.indexByte m.data.toList x)) ∧ w' = u from by
          have h := Tryz.strings_IndexRune_ascii m (x.toNat : Int) u (by omega) (by omega)
          rwa [Int.toNat_natCast, show x.toNat.toUInt8 = x by simp] at h)
        clear hit
        cases hin : m.data.toList.contains x
        · rw [hin] at hcon
          have hlt : decide ((0 : Int) ≤ Lib.indexByte m.data.toList x) = false := hcon.symm
          have HIN := hide hin
          clear hcon hin
          go_wp2_with fail
          refine (HIR.out _).mono ?_
          rintro e w' ⟨rfl, hw⟩
          rw [hw]
          clear hw w'
          go_wp2
          go_roundg g
          case measure => omega
          case rel => exact ⟨i + 1, _, by omega, rfl, HIT.out, HB2.out, HN.out.succ Hx.out HIN.out⟩
        · rw [hin] at hcon
          have hlt : decide ((0 : Int) ≤ Lib.indexByte m.data.toList x) = true := hcon.symm
          have HIN := hide hin
          clear hcon hin
          go_wp2_with fail
          refine (HIR.out _).mono ?_
          rintro e w' ⟨rfl, hw⟩
          rw [hw]
          clear hw w'
          go_wp2
          go_ret
          exact ⟨by rw [Lib.indexAny_hit HN.out Hx.out HIN.out]; rfl, HB2.out⟩
      · have hhi : 128 ≤ (s[i]'hi).toNat := by rw [hx]; omega
        have hnx := fun ty => Lib.run_next_any_at (P := Tryz.prog) wr w.heap.size s i ty hit hi
        have h1 := decode_high s i hi hhi
        have h2 := decode_le s i
        have HSK := hide (decode_skips s i hi hhi)
        have HHI := hide hhi
        have HIT := hide (Lib.iterAt_heap wr w.heap.size s i (i + (Utf8.decode s i).2) hit)
        have HB2 := hide (Lib.below_iterAt HB.out (Nat.le_refl _) s (i + (Utf8.decode s i).2))
        obtain ⟨r, hr⟩ : ∃ r, (Utf8.decode s i).1 = r := ⟨_, rfl⟩
        obtain ⟨d, hd⟩ : ∃ d, (Utf8.decode s i).2 = d := ⟨_, rfl⟩
        rw [hr, hd] at h1
        rw [hr] at h2
        rw [hr, hd] at hnx
        rw [hd] at HSK HIT HB2
        clear hr hd hx hxl hit
        have HID := hide (show i + d ≤ s.size from by
          rcases Nat.lt_or_ge (i + d) (s.size + 1) with h | h
          · omega
          · obtain ⟨hj, _⟩ := HSK.out s.size hi (by omega)
            omega)
        have HN2 := hide (noAny_high HM.out HN.out (j := i + d) (fun k hk1 hk2 => by
          rcases Nat.lt_or_ge i k with h | h
          · exact HSK.out k h hk2
          · obtain rfl : k = i := by omega
            exact ⟨hi, HHI.out⟩))
        have HIR := hide (HIH.out (r : Int) (by omega) (by omega))
        go_wp2_with fail
        refine (HIR.out _).mono ?_
        rintro e w' ⟨rfl, hw⟩
        have hit2 : w'.heap[w.heap.size]? = some (.stringIter s (i + d)) := by
          rw [hw.block _ (by
            have := HIT.out
            rw [Array.getElem?_eq_some_iff] at this
            exact this.1)]
          exact HIT.out
        have HIT2 := hide hit2
        have HB3 := hide (HB2.out.trans (hw.mono (by
            have := HIT.out
            rw [Array.getElem?_eq_some_iff] at this
            exact Nat.le_of_lt this.1)))
        clear hit2 hw
        go_wp2
        go_roundg (s.size - (i + d))
        case measure => have := HID.out; omega
        case rel => exact ⟨i + d, _, by have := HID.out; omega, rfl, HIT2.out, HB3.out, HN2.out⟩
theorem info_asciiSet : (Tryz.prog.info? 140).map (fun i => (i.zero, i.size)) = some (some (.agg (Array.replicate 256 (.bool false))), 256) := by kernel_rfl
/-- strings.IndexAny at two ASCII marks or more, in any text -/
theorem indexAny_any (s m : ByteArray) (hs : s.size ≤ 1048576) (hm2 : 2 ≤ m.size) (hms : m.size ≤ 1048576) (hm : Ascii m) (w : World) :
    Calls Tryz.prog 139 #[.string s, .string m] w fun e w' => e = .returned (.int .i64 (Lib.indexAny s.data.toList m.data.toList)) ∧ Below w.heap.size w w' := by
  by_cases h8 : s.size ≤ 8
  · exact indexAny_short s m h8 hm2 hms hm w
  · refine (Tryz.strings_IndexAny_long (zero_of_info info_asciiSet).1 s m w hm2 (by omega) (by omega) (by omega) (fun j b hj => hm b (List.mem_of_getElem? hj))).mono ?_
    rintro e w' ⟨he, rfl⟩
    exact ⟨he, ((Below.refl _ _).alloc (Nat.le_refl _) _).alloc (by rw [World.size_alloc]; omega) _⟩
end Go.Proofs.YtnaecdoeldoipaaGreatDoor
