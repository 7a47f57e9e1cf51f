/-
  strings.IndexAny at some ASCII marks, in any text: also where the text is no ASCII. strings.IndexAny at some ASCII marks, in any text: the walks. Reading trees from texts: the program's until at three marks; its numbers. Reading trees from texts: the program's kids: a list's or form's parts, plain laws. Reading trees from texts: the program's kids. Reading trees from texts: the program's tree.
-/
import Derived.Test.YtnaecdoeldoipaaGreatDoorShelf
import Derived.Test.YtnaecdoeldoipaaGreatDoorTb
import Derived.Laws.RangeAny
import Derived.Laws.Cover4
import Derived.Laws.Runes
import Derived.Lib.IndexAny
import Derived.StillTailTactics
import Derived.WalkMore
import Derived.Deep.LoopGhost
import Derived.Lib.OthersKept
import Derived.Test.YtnaecdoeldoipaaGreatDoorTrI0
import Derived.Deep.RegionWith
import Derived.Deep.DeepCutAuto
set_option linter.unusedVariables false
set_option linter.unusedSimpArgs false
namespace Go.Proofs.YtnaecdoeldoipaaGreatDoor
open Go.ChangeShapes Go.WideShapes Go.ChangeAt Go.RowKit

theorem get_of (s : ByteArray) (i : Nat) (h : i < s.size) : s.get! i = s[i]'h := by
  simp [ByteArray.get!, getElem!_pos, h]
  rfl
/-- a rune that is no ASCII swallows no ASCII -/
theorem decode_skips (s : ByteArray) (pos : Nat) (h : pos < s.size) (ha : 128 ≤ (s[pos]'h).toNat) (j : Nat) (h1 : pos < j) (h2 : j < pos + (Utf8.decode s pos).2) : ∃ hj : j < s.size, 128 ≤ (s[j]'hj).toNat := by
  have key : ∀ k, (decide (pos + k < s.size) && (s.get! (pos + k)).toNat / 64 == 2) = true → ∃ hj : pos + k < s.size, 128 ≤ (s[pos + k]'hj).toNat := by
    intro k hk
    simp only [Bool.and_eq_true, decide_eq_true_eq, beq_iff_eq] at hk
    obtain ⟨hk1, hk2⟩ := hk
    rw [get_of s _ hk1] at hk2
    exact ⟨hk1, by omega⟩
  have hn : ¬ (s.get! (pos + 0)).toNat < 128 := by rw [get_of s (pos + 0) h]; show ¬ (s[pos]'h).toNat < 128; omega
  have k1 := key 1
  have k2 := key 2
  have k3 := key 3
  clear key
  revert h2
  simp only [Utf8.decode, hn, if_false]
  repeat' split
  all_goals
    rename_i hs
    intro h2
    simp only at h2
    first
      | (exfalso; omega)
      | skip
  all_goals
    simp only [Bool.and_eq_true] at *
  · obtain rfl : j = pos + 1 := by omega
    exact k1 (by simp_all)
  · obtain rfl | rfl : j = pos + 1 ∨ j = pos + 2 := by omega
    · exact k1 (by simp_all)
    · exact k2 (by simp_all)
  · obtain rfl | rfl | rfl : j = pos + 1 ∨ j = pos + 2 ∨ j = pos + 3 := by omega
    · exact k1 (by simp_all)
    · exact k2 (by simp_all)
    · exact k3 (by simp_all)
/-- the bytes of a rune that is no ASCII -/
theorem encode_high (r : Int) (h : 128 ≤ r) : 1 ≤ (Utf8.encode r).size ∧ (Utf8.encode r).size ≤ 4 ∧ ∀ x ∈ bl (Utf8.encode r), 128 ≤ x.toNat := by
  obtain ⟨c, hc⟩ : ∃ c, (if Utf8.valid r = true then r.toNat else Utf8.runeError) = c := ⟨_, rfl⟩
  have hb : 128 ≤ c ∧ c ≤ 1114111 := by
    rw [← hc]
    by_cases hv : Utf8.valid r = true
    · rw [if_pos hv]
      unfold Utf8.valid at hv
      simp at hv
      omega
    · rw [if_neg hv]
      decide
  have hx : ∀ n, 128 ≤ n → n < 256 → 128 ≤ (UInt8.ofNat n).toNat := fun n h1 h2 => by
    rw [UInt8.toNat_ofNat_of_lt' (by omega)]
    exact h1
  unfold Utf8.encode
  simp only [hc]
  rw [if_neg (by omega)]
  split
  · refine ⟨by simp [ByteArray.size], by simp [ByteArray.size], fun x hm => ?_⟩
    simp only [bl, List.mem_cons, List.not_mem_nil, or_false] at hm
    rcases hm with rfl | rfl <;> exact hx _ (by omega) (by omega)
  · split
    · refine ⟨by simp [ByteArray.size], by simp [ByteArray.size], fun x hm => ?_⟩
      simp only [bl, List.mem_cons, List.not_mem_nil, or_false] at hm
      rcases hm with rfl | rfl | rfl <;> exact hx _ (by omega) (by omega)
    · refine ⟨by simp [ByteArray.size], by simp [ByteArray.size], fun x hm => ?_⟩
      simp only [bl, List.mem_cons, List.not_mem_nil, or_false] at hm
      rcases hm with rfl | rfl | rfl | rfl <;> exact hx _ (by omega) (by omega)
theorem indexByte_high : ∀ (l : List UInt8) (c : UInt8), (∀ x ∈ l, x.toNat < 128) → 128 ≤ c.toNat → Lib.indexByte l c = -1
  | [], _, _, _ => rfl
  | b :: l, c, h, hc => by
    have ih := indexByte_high l c (fun x hx => h x (by simp [hx])) hc
    have hb := h b (by simp)
    have hne : (b == c) = false := by
      rw [beq_eq_false_iff_ne]
      rintro rfl
      omega
    rw [Lib.indexByte, hne, ih]
    rfl
end Go.Proofs.YtnaecdoeldoipaaGreatDoor
set_option linter.unusedVariables false
set_option linter.unusedSimpArgs false
namespace Go.Proofs.YtnaecdoeldoipaaGreatDoor
open Go.ChangeShapes Go.WideShapes Go.ChangeAt Go.RowKit

def Ascii (s : ByteArray) : Prop := ∀ x ∈ bl s, x.toNat < 128
theorem Ascii.at {s : ByteArray} (h : Ascii s) (i : Nat) (hi : i < s.size) : (s[i]'hi).toNat < 128 := by
  have := h ((bl s)[i]'(by rw [bl_len]; exact hi)) (List.getElem_mem _)
  rwa [bl_get s i hi] at this
set_option maxRecDepth 100000 in
set_option maxHeartbeats 2000000 in
theorem indexRune_high (s : ByteArray) (hs : s.size ≤ 1048576) (ha : Ascii s) (r : Int) (h0 : 128 ≤ r) (h1 : r ≤ 2147483647) (w : World) :
    Calls Tryz.prog 149 #[.string s, .int .i32 r] w fun e w' => e = .returned (.int .i64 (-1)) ∧ Below w.heap.size w w' := by
  have HA := hide ha
  have d0 : decide ((0 : Int) ≤ r) = true := decide_eq_true (by omega)
  have d1 : decide (r < 128) = false := decide_eq_false (by omega)
  obtain ⟨hen1, hen2, hen3⟩ := encode_high r h0
  have HE := hide hen3
  clear ha hen3
  by_cases hr : r = 65533
  · have d2 : (r == 65533) = true := beq_iff_eq.2 hr
    go_enter Tryz.func149, Tryz.ntmps149
    go_wp2
    go_loopg [5, 6] s.size (fun g _ _ wx => ∃ i : Nat, i + g = s.size ∧ wx = w.iter s i)
    case atStart => exact ⟨0, by omega, rfl⟩
    case round =>
      obtain ⟨i, hig, rfl⟩ := hrel
      cases gk with
      | zero =>
        obtain rfl : i = s.size := by omega
        have hnx := run_next_end (P := Tryz.prog) w s s.size
        go_wp2
        go_ret
        exact ⟨rfl, (Below.refl _ _).alloc (Nat.le_refl _) _⟩
      | succ g =>
        have hi : i < s.size := by omega
        have hx128 := HA.out.at i hi
        have hnx := fun ty => run_next_ascii (P := Tryz.prog) w s i ty hi hx128
        obtain ⟨x, hx⟩ : ∃ x, s[i]'hi = x := ⟨_, rfl⟩
        rw [hx] at hnx hx128
        clear hx
        have hne : (((x.toNat : Int)) == 65533) = false := beq_eq_false_iff_ne.2 (by omega)
        go_wp2
        go_roundg g
        case measure => omega
        case rel => exact ⟨i + 1, by omega, rfl⟩
  · have d2 : (r == 65533) = false := beq_eq_false_iff_ne.2 hr
    have HV := hide (Tryz.utf8_ValidRune r)
    clear hr
    go_enter Tryz.func149, Tryz.ntmps149
    go_wp2_with fail
    refine (HV.out _).mono ?_
    rintro e w2 ⟨rfl, rfl⟩
    cases Lib.validRune r
    · go_wp2
      go_ret
      exact ⟨rfl, Below.refl _ _⟩
    · obtain ⟨m, hm⟩ : ∃ m : Nat, (Utf8.encode r).size = m + 1 := ⟨(Utf8.encode r).size - 1, by omega⟩
      have hwm : IntKind.i64.wrap (((Utf8.encode r).size : Int) - 1) = (m : Int) := by
        rw [hm, show (((m + 1 : Nat) : Int) - 1) = (m : Int) by omega]
        exact wrapI _ (by omega) (by omega)
      have hbm : (m : Int) < ((Utf8.encode r).size : Int) := by omega
      have hbm0 : (0 : Int) ≤ (m : Int) := by omega
      have HM := hide hm
      clear hm hen1 hen2
      have hcv := fun (u : World) => run_convert_int_string (P := Tryz.prog) u 21 9 .i32 r (by kernel_rfl) (by kernel_rfl)
      go_wp2
      go_step3
      go_wp2
      go_loopw [9, 10] (fun v9 v10 wz => v9 = .int .i64 (m : Int) ∧ v10 = .int .i64 0 ∧ wz = w2) (fun _ _ _ => 0)
      case atStart => exact ⟨rfl, rfl, rfl⟩
      case round =>
        obtain ⟨rfl, rfl, rfl⟩ := hrel
        by_cases hlt : m < s.size
        · have hlt2 : decide ((m : Int) < (s.size : Int)) = true := decide_eq_true (by omega)
          have hlt3 : (m : Int) < (s.size : Int) := by omega
          have hx1 : (s[m]'hlt).toNat < 128 := HA.out.at m hlt
          have hy1 : 128 ≤ ((Utf8.encode r)[m]'(by rw [HM.out]; omega)).toNat := by
            have h := HE.out ((bl (Utf8.encode r))[m]'(by rw [bl_len, HM.out]; omega)) (List.getElem_mem _)
            rwa [bl_get (Utf8.encode r) m (by rw [HM.out]; omega)] at h
          obtain ⟨x, hx⟩ : ∃ x, s[m]'hlt = x := ⟨_, rfl⟩
          obtain ⟨y, hy⟩ : ∃ y, (Utf8.encode r)[m]'(by rw [HM.out]; omega) = y := ⟨_, rfl⟩
          rw [hx] at hx1
          rw [hy] at hy1
          have hne : (((x.toNat : Int)) != ((y.toNat : Int))) = true := by
            rw [bne_iff_ne]
            omega
          go_wp2
          go_step3
          go_wp2
          go_region
          have hw1 : IntKind.i64.wrap ((m : Int) + 1) = (m : Int) + 1 := wrapI _ (by omega) (by omega)
          have hm1 : (m : Int) + 1 ≤ (s.size : Int) := by omega
          have hm0 : (0 : Int) ≤ (m : Int) + 1 := by omega
          have HIB := hide (fun (u : World) => show Calls Tryz.prog 68 #[.string (s.extract (m + 1) s.size), .int .u8 (y.toNat : Int)] u fun e w' => e = .returned (.int .i64 (-1)) ∧ w' = u from by
            have h := Tryz.strings_IndexByte (s.extract (m + 1) s.size) (y.toNat : Int) u
            rwa [Int.toNat_natCast, show y.toNat.toUInt8 = y by simp, indexByte_high (s.extract (m + 1) s.size).data.toList y (fun z hz => HA.out z (by
              have e := Lib.extract_data s (m + 1) s.size
              rw [e] at hz
              exact List.mem_of_mem_drop (List.mem_of_mem_take hz))) hy1] at h)
          go_wp2
          go_region_with (first | (go_simp; go_at_call 68; refine (HIB.out _).mono ?_; rintro e w6 ⟨rfl, rfl⟩))
          all_goals
            go_wp2
            simp (config := {zetaDelta := true}) only [Exit.noGoto_ret, Exit.inBlock, Exit.then]
            go_ret
            exact ⟨rfl, (Below.refl _ _).drew.drew⟩
        · have hlt2 : decide ((m : Int) < (s.size : Int)) = false := decide_eq_false (by omega)
          go_wp2_with fail
          rw [Exit.noGoto_ret]
          go_ret
          exact ⟨rfl, Below.refl _ _⟩
theorem noAny_high {s : ByteArray} {m : List UInt8} (hm : ∀ x ∈ m, x.toNat < 128) {i j : Nat} (h : Lib.NoAny s.data.toList m i) (hj : ∀ k, i ≤ k → k < j → ∃ hk : k < s.size, 128 ≤ (s[k]'hk).toNat) : Lib.NoAny s.data.toList m j := by
  intro k b hk hb
  by_cases h1 : k < i
  · exact h k b h1 hb
  · obtain ⟨hk2, h2⟩ := hj k (by omega) hk
    have e : s.data.toList[k]? = some (s[k]'hk2) := Lib.data_getElem? s k hk2
    rw [e] at hb
    injection hb with hb
    subst hb
    rw [Bool.eq_false_iff]
    intro hc
    have := hm _ (by simpa using hc)
    omega
set_option maxRecDepth 100000 in
set_option maxHeartbeats 2000000 in
theorem indexAny_short (s m : ByteArray) (hs : s.size ≤ 8) (hm2 : 2 ≤ m.size) (hms : m.size ≤ 1048576) (hm : Ascii m) (w : World) :
    Calls Tryz.prog 139 #[.string s, .string m] w fun e w' => e = .returned (.int .i64 (Lib.indexAny s.data.toList m.data.toList)) ∧ Below w.heap.size w w' := by
  have hemp : m.toList.isEmpty = false := by
    rw [Lib.toList_data]
    cases h : m.data.toList with
    | nil => have := Lib.size_eq m; rw [h, List.length_nil] at this; omega
    | cons _ _ => rfl
  have hn1 : ((m.size : Int) == 1) = false := beq_eq_false_iff_ne.2 (by omega)
  have HSA := hide (fun (u : World) => show Calls Tryz.prog 150 #[.int .i64 (s.size : Int)] u fun e w' => e = .returned (.bool false) ∧ w' = u from by
    have h := Tryz.strings_shouldUseASCIISet (s.size : Int) u
    rwa [decide_eq_false (show ¬ (8 : Int) < (s.size : Int) by omega)] at h)
  have HM := hide hm
  have HIH := hide (fun (r : Int) (h0 : 128 ≤ r) (h1 : r ≤ 2147483647) (u : World) => indexRune_high m hms hm r h0 h1 u)
  clear hm
  go_enter Tryz.func139, Tryz.ntmps139
  go_wp2_with fail
  refine (HSA.out _).mono ?_
  rintro e w' ⟨rfl, hw⟩
  rw [hw]
  clear hw w'
  go_wp2
  go_loopg [9, 10] s.size (fun g _ _ wx => ∃ i p : Nat, i + g = s.size ∧ p = w.heap.size ∧ wx.heap[p]? = some (.stringIter s i) ∧ Below p w wx ∧ Lib.NoAny s.data.toList m.data.toList i)
  case atStart => exact ⟨0, _, by omega, rfl, World.iter_heap w s 0, (Below.refl _ _).alloc (Nat.le_refl _) _, Lib.NoAny.zero _ _⟩
  case round =>
    obtain ⟨i, p, hig, rfl, hit, hbw, hno⟩ := hrel
    have HN := hide hno
    have HB := hide hbw
    clear hno hbw
    cases gk with
    | zero =>
      obtain rfl : i = s.size := by omega
      have hnx := fun ty => Lib.run_next_end_at (P := Tryz.prog) wr w.heap.size s s.size ty hit (by omega)
      go_wp2
      go_ret
      exact ⟨by rw [Lib.indexAny_none (by rw [← Lib.size_eq]; exact HN.out)]; rfl, HB.out⟩
    | succ g =>
      have hi : i < s.size := by omega
      obtain ⟨x, hx⟩ : ∃ x : UInt8, s[i]'hi = x := ⟨_, rfl⟩
      have hxl : s.data.toList[i]? = some x := by rw [← hx]; exact Lib.data_getElem? s i hi
      have Hx := hide hxl
      by_cases ha : x.toNat < 128
      · have hnx := fun ty => Lib.run_next_ascii_at (P := Tryz.prog) wr w.heap.size s i ty hit hi (by rw [hx]; exact ha)
        rw [hx] at hnx
        clear hx hxl
        have HIT := hide (Lib.iterAt_heap wr w.heap.size s i (i + 1) hit)
        have HB2 := hide (Lib.below_iterAt HB.out (Nat.le_refl _) s (i + 1))
        have hcon := Lib.contains_iff_indexByte m.data.toList x
        have HIR := hide (fun (u : World) => show Calls Tryz.prog 149 #[.string m, .int .i32 (x.toNat : Int)] u fun e w' => e = .returned (.int .i64 (Lib.indexByte m.data.toList x)) ∧ w' = u from by
          have h := Tryz.strings_IndexRune_ascii m (x.toNat : Int) u (by omega) (by omega)
          rwa [Int.toNat_natCast, show x.toNat.toUInt8 = x by simp] at h)
        clear hit
        cases hin : m.data.toList.contains x
        · rw [hin] at hcon
          have hlt : decide ((0 : Int) ≤ Lib.indexByte m.data.toList x) = false := hcon.symm
          have HIN := hide hin
          clear hcon hin
          go_wp2_with fail
          refine (HIR.out _).mono ?_
          rintro e w' ⟨rfl, hw⟩
          rw [hw]
          clear hw w'
          go_wp2
          go_roundg g
          case measure => omega
          case rel => exact ⟨i + 1, _, by omega, rfl, HIT.out, HB2.out, HN.out.succ Hx.out HIN.out⟩
        · rw [hin] at hcon
          have hlt : decide ((0 : Int) ≤ Lib.indexByte m.data.toList x) = true := hcon.symm
          have HIN := hide hin
          clear hcon hin
          go_wp2_with fail
          refine (HIR.out _).mono ?_
          rintro e w' ⟨rfl, hw⟩
          rw [hw]
          clear hw w'
          go_wp2
          go_ret
          exact ⟨by rw [Lib.indexAny_hit HN.out Hx.out HIN.out]; rfl, HB2.out⟩
      · have hhi : 128 ≤ (s[i]'hi).toNat := by rw [hx]; omega
        have hnx := fun ty => Lib.run_next_any_at (P := Tryz.prog) wr w.heap.size s i ty hit hi
        have h1 := decode_high s i hi hhi
        have h2 := decode_le s i
        have HSK := hide (decode_skips s i hi hhi)
        have HHI := hide hhi
        have HIT := hide (Lib.iterAt_heap wr w.heap.size s i (i + (Utf8.decode s i).2) hit)
        have HB2 := hide (Lib.below_iterAt HB.out (Nat.le_refl _) s (i + (Utf8.decode s i).2))
        obtain ⟨r, hr⟩ : ∃ r, (Utf8.decode s i).1 = r := ⟨_, rfl⟩
        obtain ⟨d, hd⟩ : ∃ d, (Utf8.decode s i).2 = d := ⟨_, rfl⟩
        rw [hr, hd] at h1
        rw [hr] at h2
        rw [hr, hd] at hnx
        rw [hd] at HSK HIT HB2
        clear hr hd hx hxl hit
        have HID := hide (show i + d ≤ s.size from by
          rcases Nat.lt_or_ge (i + d) (s.size + 1) with h | h
          · omega
          · obtain ⟨hj, _⟩ := HSK.out s.size hi (by omega)
            omega)
        have HN2 := hide (noAny_high HM.out HN.out (j := i + d) (fun k hk1 hk2 => by
          rcases Nat.lt_or_ge i k with h | h
          · exact HSK.out k h hk2
          · obtain rfl : k = i := by omega
            exact ⟨hi, HHI.out⟩))
        have HIR := hide (HIH.out (r : Int) (by omega) (by omega))
        go_wp2_with fail
        refine (HIR.out _).mono ?_
        rintro e w' ⟨rfl, hw⟩
        have hit2 : w'.heap[w.heap.size]? = some (.stringIter s (i + d)) := by
          rw [hw.block _ (by
            have := HIT.out
            rw [Array.getElem?_eq_some_iff] at this
            exact this.1)]
          exact HIT.out
        have HIT2 := hide hit2
        have HB3 := hide (HB2.out.trans (hw.mono (by
            have := HIT.out
            rw [Array.getElem?_eq_some_iff] at this
            exact Nat.le_of_lt this.1)))
        clear hit2 hw
        go_wp2
        go_roundg (s.size - (i + d))
        case measure => have := HID.out; omega
        case rel => exact ⟨i + d, _, by have := HID.out; omega, rfl, HIT2.out, HB3.out, HN2.out⟩
theorem info_asciiSet : (Tryz.prog.info? 140).map (fun i => (i.zero, i.size)) = some (some (.agg (Array.replicate 256 (.bool false))), 256) := by kernel_rfl
/-- strings.IndexAny at two ASCII marks or more, in any text -/
theorem indexAny_any (s m : ByteArray) (hs : s.size ≤ 1048576) (hm2 : 2 ≤ m.size) (hms : m.size ≤ 1048576) (hm : Ascii m) (w : World) :
    Calls Tryz.prog 139 #[.string s, .string m] w fun e w' => e = .returned (.int .i64 (Lib.indexAny s.data.toList m.data.toList)) ∧ Below w.heap.size w w' := by
  by_cases h8 : s.size ≤ 8
  · exact indexAny_short s m h8 hm2 hms hm w
  · refine (Tryz.strings_IndexAny_long (zero_of_info info_asciiSet).1 s m w hm2 (by omega) (by omega) (by omega) (fun j b hj => hm b (List.mem_of_getElem? hj))).mono ?_
    rintro e w' ⟨he, rfl⟩
    exact ⟨he, ((Below.refl _ _).alloc (Nat.le_refl _) _).alloc (by rw [World.size_alloc]; omega) _⟩
end Go.Proofs.YtnaecdoeldoipaaGreatDoor
set_option linter.unusedVariables false
set_option linter.unusedSimpArgs false
namespace Go.Proofs.YtnaecdoeldoipaaGreatDoor
open Go.ChangeShapes Go.WideShapes Go.ChangeAt Go.RowKit

def marks3 : List UInt8 := [44, 93, 125]
theorem anySplit (m : List UInt8) : ∀ (l : List UInt8), (Lib.indexAny l m = -1 ∧ ∀ x ∈ l, m.contains x = false) ∨ (∃ n : Nat, Lib.indexAny l m = (n : Int) ∧ n < l.length ∧ (∀ x ∈ l.take n, m.contains x = false) ∧ ∃ c r, l.drop n = c :: r ∧ m.contains c = true)
  | [] => .inl ⟨rfl, fun x hx => by cases hx⟩
  | b :: l => by
    cases h : m.contains b with
    | true => exact .inr ⟨0, by rw [Lib.indexAny, if_pos h]; rfl, by simp, fun x hx => by simp at hx, b, l, rfl, h⟩
    | false =>
      rcases anySplit m l with ⟨h1, h2⟩ | ⟨n, h1, h2, h3, c, r, h4, h5⟩
      · refine .inl ⟨?_, fun x hx => ?_⟩
        · simp only [Lib.indexAny, h, h1]
          rfl
        · rcases List.mem_cons.1 hx with rfl | hx
          · exact h
          · exact h2 x hx
      · refine .inr ⟨n + 1, ?_, by simp only [List.length_cons]; omega, fun x hx => ?_, c, r, by simpa using h4, h5⟩
        · simp only [Lib.indexAny, h, h1]
          have : ((n : Int) == -1) = false := by simp
          rw [this]
          simp
        · simp only [List.take_succ_cons] at hx
          rcases List.mem_cons.1 hx with rfl | hx
          · exact h
          · exact h3 x hx
/-- what stands ahead of the first mark; all, if there is none -/
def UntilM (l : List UInt8) (x : ByteArray) (l' : List UInt8) : Prop := l = bl x ++ l' ∧ (∀ y ∈ bl x, marks3.contains y = false) ∧ (l' = [] ∨ ∃ c r, l' = c :: r ∧ marks3.contains c = true)
theorem ender_mark {R : List UInt8} (h : Ender R) : R = [] ∨ ∃ c r, R = c :: r ∧ marks3.contains c = true := by
  match R, h with
  | [], _ => exact .inl rfl
  | c :: r, h =>
    refine .inr ⟨c, r, rfl, ?_⟩
    rcases h c r rfl with rfl | rfl | rfl <;> decide
theorem marks_split : ∀ (a b s t : List UInt8), (∀ y ∈ a, marks3.contains y = false) → (∀ y ∈ b, marks3.contains y = false) → (s = [] ∨ ∃ c r, s = c :: r ∧ marks3.contains c = true) → (t = [] ∨ ∃ c r, t = c :: r ∧ marks3.contains c = true) → a ++ s = b ++ t → b = a ∧ t = s
  | [], [], s, t, _, _, _, _, e => ⟨rfl, e.symm⟩
  | [], y :: b, s, t, _, hb, hs, _, e => by
    rcases hs with rfl | ⟨c, r, rfl, hc⟩
    · simp at e
    · simp only [List.nil_append, List.cons_append] at e
      injection e with e1 _
      subst e1
      rw [hb c (by simp)] at hc
      cases hc
  | z :: a, [], s, t, ha, _, _, ht, e => by
    rcases ht with rfl | ⟨c, r, rfl, hc⟩
    · simp at e
    · simp only [List.nil_append, List.cons_append] at e
      injection e with e1 _
      subst e1
      rw [ha z (by simp)] at hc
      cases hc
  | z :: a, y :: b, s, t, ha, hb, hs, ht, e => by
    simp only [List.cons_append] at e
    injection e with e1 e2
    obtain ⟨h1, h2⟩ := marks_split a b s t (fun y hy => ha y (by simp [hy])) (fun y hy => hb y (by simp [hy])) hs ht e2
    exact ⟨by rw [h1, e1], h2⟩
theorem UntilM.at {l n R l' : List UInt8} {x : ByteArray} (h : UntilM l x l') (hn : ∀ y ∈ n, marks3.contains y = false) (hR : Ender R) (e : l = n ++ R) : bl x = n ∧ l' = R :=
  marks_split n (bl x) R l' hn h.2.1 (ender_mark hR) h.2.2 (e.symm.trans h.1)
def UntilOutM (g : Nat) (l : List UInt8) (fail : Bool) (w : World) (e : Ending) (w' : World) : Prop :=
  ∃ (x : ByteArray) (l' : List UInt8), e = .returned (.string x) ∧ x.size ≤ 10000 ∧ RdJ w' g l' fail ∧ UntilM l x l' ∧ w.grownBy w' (some g)
theorem ascii3 : Ascii ⟨#[44, 93, 125]⟩ := by
  intro x hx
  simp only [bl, List.mem_cons, List.not_mem_nil, or_false] at hx
  rcases hx with rfl | rfl | rfl <;> decide
set_option maxRecDepth 100000 in
set_option maxHeartbeats 1000000 in
theorem until3_any {l : List UInt8} {fail : Bool} {g : Nat} {w : World} (h : RdJ w g l fail) :
    Calls Tryz.prog 103 #[.pointer (some ⟨g, 0, none⟩), .string ⟨#[44, 93, 125]⟩] w (UntilOutM g l fail w) := by
  obtain ⟨s, hr, hs, rfl⟩ := h
  have r0 := hr.cell 0
  have f0 := hr.frozen 0
  have lr := hr.lt
  have HR := hide hr
  have HC := hide (indexAny_any s ⟨#[44, 93, 125]⟩ (by omega) (by decide) (by decide) ascii3 w)
  rcases anySplit marks3 (bl s) with ⟨h1, h2⟩ | ⟨n, h1, h2, h3, c, r, h4, h5⟩
  · rw [show Lib.indexAny s.data.toList (⟨#[44, 93, 125]⟩ : ByteArray).data.toList = -1 from h1] at HC
    have H2 := hide h2
    have h01 : (0 : Int) ≤ (s.size : Int) := by omega
    clear hr h1 h2 r0 f0 lr
    go_enter Tryz.func103, Tryz.ntmps103
    have r0 := HR.out.cell 0
    have f0 := HR.out.frozen 0
    have lr := HR.out.lt
    go_wp2_with fail
    refine HC.out.mono ?_
    rintro e w2 ⟨rfl, hb⟩
    have HB := hide hb
    have HR2 := hide (HR.out.below hb lr)
    clear r0 f0 lr hb
    have r0 := HR2.out.cell 0
    have f0 := HR2.out.frozen 0
    have lr := HR2.out.lt
    go_wp2
    go_ret
    refine ⟨s, [], by simp [Array.getD, extract_whole], by omega, ⟨_, HR2.out.set 0 _, by simp, bl_nil.symm⟩, ⟨by rw [List.append_nil], H2.out, .inl rfl⟩, only_setCell (p := ⟨g, 0, none⟩) (grownBy_below HB.out (some g)) (.inl rfl) _⟩
  · rw [show Lib.indexAny s.data.toList (⟨#[44, 93, 125]⟩ : ByteArray).data.toList = (n : Int) from h1] at HC
    rw [bl_len] at h2
    have H3 := hide h3
    have H4 := hide h4
    have H5 := hide h5
    have hn0 : ¬ ((n : Int) < 0) := by omega
    have hn1 : (n : Int) ≤ (s.size : Int) := by omega
    have hn2 : (0 : Int) ≤ (n : Int) := by omega
    clear hr h1 h3 h4 h5 r0 f0 lr
    go_enter Tryz.func103, Tryz.ntmps103
    have r0 := HR.out.cell 0
    have f0 := HR.out.frozen 0
    have lr := HR.out.lt
    go_wp2_with fail
    refine HC.out.mono ?_
    rintro e w2 ⟨rfl, hb⟩
    have HB := hide hb
    have HR2 := hide (HR.out.below hb lr)
    clear r0 f0 lr hb
    have r0 := HR2.out.cell 0
    have f0 := HR2.out.frozen 0
    have lr := HR2.out.lt
    go_wp2
    go_ret
    obtain ⟨r', h4'⟩ : ∃ r', (bl s).drop n = c :: r' := ⟨r, H4.out⟩
    refine ⟨s.extract 0 n, (bl s).drop n, by simp [Array.getD], by rw [ByteArray.size_extract]; omega, ⟨_, HR2.out.set 0 _, by rw [ByteArray.size_extract]; omega, ?_⟩, ⟨?_, ?_, .inr ⟨c, r', h4', H5.out⟩⟩, only_setCell (p := ⟨g, 0, none⟩) (grownBy_below HB.out (some g)) (.inl rfl) _⟩
    · rw [sub_bl']
      exact (List.take_of_length_le (by rw [List.length_drop, bl_len]; exact Nat.le_refl _)).symm
    · rw [sub_bl', List.drop_zero, Nat.sub_zero, List.take_append_drop]
    · rw [sub_bl', List.drop_zero, Nat.sub_zero]
      exact H3.out
theorem dec_marks (z : Int) : ∀ y ∈ bl (dec z), marks3.contains y = false := by
  intro y hy
  have h : y.toNat = 45 ∨ (48 ≤ y.toNat ∧ y.toNat ≤ 57) := dec_mem z y hy
  rw [Bool.eq_false_iff]
  intro hc
  have hm : y = 44 ∨ y = 93 ∨ y = 125 := by simpa [marks3] using hc
  rcases hm with rfl | rfl | rfl <;> (revert h; decide)
/-- the number that the program reads is the number that stands there -/
theorem numTaken_of {l l' : List UInt8} {x : ByteArray} {n : Int} (h : UntilM l x l') (hn : ∀ z, numOf x = some z → n = z) : NumTaken l false n l' (!(numOf x).isSome) := by
  intro z R hz hR _ e
  obtain ⟨hx, hl⟩ := h.at (dec_marks z) hR e
  have hxe := bl_inj hx
  subst hxe
  have h1 := numOf_dec z (by omega) (by omega)
  exact ⟨hn z h1, by rw [h1]; rfl, hl⟩
theorem numOf_nil : numOf .empty = none := numOf_none fun z hz => by
  have h : dec z = .empty := hz.2.2
  obtain ⟨c, r, hc, _⟩ := dec_head z
  rw [h] at hc
  cases hc
theorem numPaid {lv : Nat} {l l' : List UInt8} {x : ByteArray} (h : UntilM l x l') : Paid lv l 0 l' (!(numOf x).isSome) := by
  have h1 := congrArg List.length h.1
  rw [List.length_append, bl_len] at h1
  refine ⟨by omega, by omega, fun hb => ?_⟩
  have hx : 1 ≤ x.size := by
    rcases Nat.eq_zero_or_pos x.size with h0 | h0
    · have : x = .empty := bl_inj (by
        have hl := bl_len x
        rw [h0] at hl
        exact List.eq_nil_of_length_eq_zero hl)
      subst this
      rw [numOf_nil] at hb
      cases hb
    · exact h0
  omega
end Go.Proofs.YtnaecdoeldoipaaGreatDoor
set_option linter.unusedVariables false
set_option linter.unusedSimpArgs false
namespace Go.Proofs.YtnaecdoeldoipaaGreatDoor
open Go.ChangeShapes Go.WideShapes Go.ChangeAt Go.RowKit

def opOf (s : Int) : UInt8 := if s = 5 then 123 else 91
/-- a form has a name for each part -/
def LenT (s : Int) (ns : List ByteArray) (ks : List Tree) : Prop := s = 5 → ns.length = ks.length
theorem LenT.nil {s : Int} : LenT s [] [] := fun _ => rfl
/-- ahead of a part: so many are read, one more must come -/
def HeadT (s : Int) (lv : Nat) (l0 : List UInt8) (b : Bool) (ns : List ByteArray) (ks : List Tree) (l : List UInt8) : Prop :=
  ∀ (ns0 : List ByteArray) (ks0 : List Tree) (R : List UInt8), Fits s ns0 ks0 → Tree.goodS ks0 (lv + 1) → l0 = trS s true ns0 ks0 ++ endOf s :: R →
    b = false ∧ ∃ ns1 k1 ks1, ns0 = ns ++ ns1 ∧ ks0 = ks ++ k1 :: ks1 ∧ Fits s ns1 (k1 :: ks1) ∧ l = ((if s = 5 then bl (ns1.headD .empty) ++ [58] else []) ++ (bl k1.wr ++ trS s false ns1.tail ks1)) ++ endOf s :: R
section
variable {s : Int} {lv : Nat} {l0 l l' l2 l4 : List UInt8} {b b' b4 c ok : Bool} {ns nx : List ByteArray} {ks : List Tree} {k : Tree}
theorem HeadT.start (h : Eaten [endOf s] l0 false l) : HeadT s lv l0 false [] [] l := by
  intro ns0 ks0 R hn hg e
  obtain ⟨rfl, hno⟩ := h.no
  refine ⟨rfl, ?_⟩
  match ks0, hn, e with
  | [], hn, e => exact absurd e (hno R)
  | k :: ks, hn, e => exact ⟨ns0, k, ks, rfl, rfl, hn, by rw [e]; simp [trS]⟩
theorem HeadT.part (h : HeadT s lv l0 false ns ks l) (h2 : NxJ s l nx l4 b4) (h4 : TakesT (lv + 1) l4 b4 k l' b') : PartsAt s lv l0 false b' (ns ++ nx) (ks ++ [k]) l' := by
  intro ns0 ks0 R hn hg e
  obtain ⟨_, ns1, k0, ks2, e1, e2, e3, e4⟩ := h ns0 ks0 R hn hg e
  have hgk : k0.good (lv + 1) := Tree.goodS_mem _ _ hg k0 (by rw [e2]; simp)
  rcases h2 with ⟨rfl, x, rfl, _, hnm⟩ | ⟨rfl, rfl, rfl, rfl⟩
  · rcases e3 with ⟨_, hl, hno⟩ | ⟨h5, _⟩
    · match ns1, hl, hno, e1, e4 with
      | n :: ns2, hl, hno, e1, e4 =>
        simp only [if_true, List.headD_cons, List.tail_cons] at e4
        obtain ⟨rfl, hl4, hb4⟩ := hnm.2.2 n (bl k0.wr ++ (trS 5 false ns2 ks2 ++ endOf 5 :: R)) (hno n (by simp)) rfl (by rw [e4]; simp [List.append_assoc])
        obtain ⟨rfl, hb5, hl5⟩ := h4 k0 _ hgk (trS_ender 5 ns2 ks2 R) hb4 hl4
        exact ⟨hb5, ns2, ks2, by rw [e1]; simp, by rw [e2]; simp, .inl ⟨rfl, by simpa using hl, fun m hm => hno m (by simp [hm])⟩, hl5⟩
    · exact absurd h5 (by decide)
  · rcases e3 with ⟨h5, _⟩ | ⟨_, rfl⟩
    · exact absurd h5 (by decide)
    · have e5 : l4 = bl k0.wr ++ (trS 4 false [] ks2 ++ endOf 4 :: R) := by
        rw [e4, if_neg (by decide)]
        simp
      obtain ⟨rfl, hb5, hl5⟩ := h4 k0 _ hgk (trS_ender 4 [] ks2 R) rfl e5
      exact ⟨hb5, [], ks2, by rw [e1]; simp, by rw [e2]; simp, .inr ⟨rfl, rfl⟩, hl5⟩
theorem PartsAt.comma (h : PartsAt s lv l0 false b ns ks l) (hb : b = false) (hne : ∀ r, l ≠ endOf s :: r) (h1 : Eaten [44] l ok l') : HeadT s lv l0 (!ok) ns ks l' := by
  intro ns0 ks0 R hn hg e
  obtain ⟨_, ns1, ks1, e1, e2, e3, e4⟩ := h ns0 ks0 R hn hg e
  match ks1, e2, e3, e4 with
  | [], _, _, e4 => exact absurd e4 (hne R)
  | k0 :: ks2, e2, e3, e4 =>
    obtain ⟨rfl, rfl⟩ := h1.yes (r := ((if s = 5 then bl (ns1.headD .empty) ++ [58] else []) ++ (bl k0.wr ++ trS s false ns1.tail ks2)) ++ endOf s :: R) (by rw [e4]; simp [trS])
    exact ⟨rfl, ns1, k0, ks2, e1, e2, e3, rfl⟩
theorem PartsAt.dead (h : PartsAt s lv l0 c true ns ks l) : HeadT s lv l0 true ns ks l2 := fun ns0 ks0 R hn hg e => by
  obtain ⟨h, _⟩ := h ns0 ks0 R hn hg e
  cases h
theorem HeadT.dead (h : HeadT s lv l0 true ns ks l) : PartsAt s lv l0 true true ns ks l2 := fun ns0 ks0 R hn hg e => by
  obtain ⟨h, _⟩ := h ns0 ks0 R hn hg e
  cases h
theorem TakesT.shut (hs : s = 4 ∨ s = 5) (h : PartsAt s lv l0 c b ns ks l) (hr : b = false → l = endOf s :: l') : TakesT lv (opOf s :: l0) false (.mk s 0 .empty ns ks) l' b := by
  rcases hs with rfl | rfl
  · exact TakesT.list h rfl hr
  · exact TakesT.form h rfl hr
theorem PaidF.less {n : Nat} {l1 lx l2 : List UInt8} {b b' : Bool} (h : PaidF lv l1 n lx b) (hl : l2.length ≤ lx.length) (hb : b' = false → b = false) : PaidF lv l1 n l2 b' := by
  obtain ⟨h1, h2, h3⟩ := h
  exact ⟨by omega, by omega, fun hf => by have := h3 (hb hf); omega⟩
theorem bulkStrs_nil : bulkStrs [] = 0 := rfl
theorem bulkStrs_one (x : ByteArray) : bulkStrs [x] = 1 + x.size := by simp [bulkStrs, bulkStr]
theorem bulkStrs_app (a b : List ByteArray) : bulkStrs (a ++ b) = bulkStrs a + bulkStrs b := by
  unfold bulkStrs
  rw [bulkStr_append, List.length_append]
  omega
theorem NxJ.less (h : NxJ s l nx l4 b4) : l4.length ≤ l.length := by
  rcases h with ⟨_, x, _, _, h1, _⟩ | ⟨_, _, rfl, _⟩
  · omega
  · exact Nat.le_refl _
theorem NxJ.fits (h : NxJ s l nx l4 b4) (hl : LenT s ns ks) : LenT s (ns ++ nx) (ks ++ [k]) := by
  rintro rfl
  rcases h with ⟨_, x, rfl, _⟩ | ⟨h, _⟩
  · rw [List.length_append, List.length_append, hl rfl]; rfl
  · exact absurd h (by decide)
theorem PaidF.part {n nk : Nat} {l1 lx : List UInt8} (h : PaidF lv l1 n lx false) (h2 : NxJ s lx nx l4 b4) (h5 : Paid (lv + 1) l4 nk l' b') (hb : b' = false → b4 = false) (hlv : lv ≤ 6) : PaidF lv l1 (n + bulkStrs nx + 1 + nk) l' b' := by
  obtain ⟨a1, a2, a3⟩ := h
  obtain ⟨c1, c2, c3⟩ := h5
  have a4 := a3 rfl
  rcases h2 with ⟨_, x, rfl, _, d1, d2, _⟩ | ⟨_, rfl, rfl, rfl⟩
  · rw [bulkStrs_one]
    refine ⟨by omega, by omega, fun hf => ?_⟩
    have c4 := c3 hf
    have d4 := d2 (hb hf)
    omega
  · rw [bulkStrs_nil]
    refine ⟨by omega, by omega, fun hf => ?_⟩
    have c4 := c3 hf
    omega
theorem paid_done {n : Nat} {l1 lx : List UInt8} {o : UInt8} (h : PaidF lv l1 n lx b) (hl : l'.length ≤ lx.length) (hb : b = false → l'.length < lx.length) : Paid lv (o :: l1) n l' b := PaidF.done rfl h hl hb
/-- nothing that begins a tree, but for a number -/
theorem eaten_head {u l l' : List UInt8} {c : UInt8} (h : Eaten (c :: u) l true l') : ∀ a r, l = a :: r → a = c := fun a r e => by
  rcases h with ⟨_, h⟩ | ⟨h, _⟩
  · rw [h] at e
    simp only [List.cons_append] at e
    injection e with e _
    exact e.symm
  · cases h
end
end Go.Proofs.YtnaecdoeldoipaaGreatDoor
set_option linter.unusedVariables false
set_option linter.unusedSimpArgs false
namespace Go.Proofs.YtnaecdoeldoipaaGreatDoor
open Go.ChangeShapes Go.WideShapes Go.ChangeAt Go.RowKit

/-- what a part's contract says -/
def PartAll4 (w : World) (g lv : Nat) : Prop := ∀ (wr : World) (B1 : Option Addr) (n1 d1 : Nat) (ns : List ByteArray) (us1 : List Value) (B2 : Option Addr) (n2 d2 : Nat) (ks : List Tree) (us2 : List Value) (fi2 : List Nat) (l : List UInt8), KT 4 w wr g lv (.slice B1 n1 d1) ns us1 (.slice B2 n2 d2) ks us2 fi2 l false → ns.length ≤ 100000 → ks.length ≤ 100000 →
  Calls Tryz.prog 100 #[.pointer (some ⟨w.heap.size + 3, 0, none⟩), .pointer (some ⟨w.heap.size, 0, none⟩), .pointer (some ⟨w.heap.size + 1, 0, none⟩)] wr (PartOutT 4 w g lv ns ks l)
/-- what a part's contract says -/
def PartAll5 (w : World) (g lv : Nat) : Prop := ∀ (wr : World) (B1 : Option Addr) (n1 d1 : Nat) (ns : List ByteArray) (us1 : List Value) (B2 : Option Addr) (n2 d2 : Nat) (ks : List Tree) (us2 : List Value) (fi2 : List Nat) (l : List UInt8), KT 5 w wr g lv (.slice B1 n1 d1) ns us1 (.slice B2 n2 d2) ks us2 fi2 l false → ns.length ≤ 100000 → ks.length ≤ 100000 →
  Calls Tryz.prog 101 #[.pointer (some ⟨w.heap.size + 3, 0, none⟩), .pointer (some ⟨w.heap.size, 0, none⟩), .pointer (some ⟨w.heap.size + 1, 0, none⟩)] wr (PartOutT 5 w g lv ns ks l)
def rjMeas (w : World) (g : Nat) : Nat := match w.cell? ⟨g, 1, none⟩, w.cell? ⟨g, 0, none⟩ with
  | some (.bool false), some (.string s) => 1 + s.size
  | _, _ => 0
theorem RdJ.meas {w : World} {g : Nat} {l : List UInt8} {fail : Bool} (h : RdJ w g l fail) : rjMeas w g = if fail = true then 0 else 1 + l.length := by
  obtain ⟨s, hr, h1, rfl⟩ := h
  unfold rjMeas
  rw [hr.cell 1, hr.cell 0]
  simp only [List.getElem?_cons_succ, List.getElem?_cons_zero]
  rw [bl_len]
  cases fail
  · simp
  · simp
def KidsOutT (S : Int) (w : World) (g lv : Nat) (l : List UInt8) (e : Ending) (w' : World) : Prop :=
  ∃ (ns : List ByteArray) (ks : List Tree) (l' : List UInt8) (b' : Bool) (B1 : Option Addr) (n1 d1 : Nat) (us1 : List Value) (B2 : Option Addr) (n2 d2 : Nat) (us2 : List Value) (fi2 : List Nat), e = .returned (.tuple #[]) ∧
    KT S w w' g lv (.slice B1 n1 d1) ns us1 (.slice B2 n2 d2) ks us2 fi2 l' b' ∧ Paid lv (opOf S :: l) (Tree.mk S 0 .empty ns ks).bulk l' b' ∧ TakesT lv (opOf S :: l) false (.mk S 0 .empty ns ks) l' b'
theorem bulk_partsT (s : Int) (ns : List ByteArray) (ks : List Tree) : (Tree.mk s 0 .empty ns ks).bulk = bulkStrs ns + ks.length + Tree.bulkS ks := by
  rw [Tree.bulk_mk, show (ByteArray.empty).size = 0 from rfl, Nat.zero_add]
set_option maxRecDepth 100000 in
set_option maxHeartbeats 4000000 in
theorem kids4_any {lv : Nat} (hl6 : lv ≤ 6) {w wr : World} {g : Nat} (hgw : g < w.heap.size) (hp : PartAll4 w g lv) {l : List UInt8} (h : KT 4 w wr g lv (.slice none 0 0) [] [] (.slice none 0 0) [] [] [] l false) :
    Calls Tryz.prog 99 #[.pointer (some ⟨g, 0, none⟩), .string ⟨#[93]⟩, .func (.func 100) #[] #[.pointer (some ⟨w.heap.size + 3, 0, none⟩), .pointer (some ⟨w.heap.size, 0, none⟩), .pointer (some ⟨w.heap.size + 1, 0, none⟩)]] wr (KidsOutT 4 w g lv l) := by
  have H := hide h
  have HP := hide hp
  have HSK := hide (skip_any h.rd ⟨#[93]⟩)
  have hlb := h.rd.len
  clear h hp
  go_enter Tryz.func99, Tryz.ntmps99
  go_wp2_with fail
  refine HSK.out.mono ?_
  rintro e w3 ⟨ok, l3, rfl, h3, he3, hg3⟩
  have HE3 := hide (show Eaten [93] l ok l3 from he3)
  have H3 := hide (H.out.read hgw hg3 h3)
  clear h3 he3 hg3 H HSK
  rcases ok with _ | _
  rotate_left
  · go_wp2
    go_end0
    refine ⟨[], [], l3, false, none, 0, 0, [], none, 0, 0, [], [], rfl, H3.out, ?_, ?_⟩
    · have := HE3.out.lt
      exact paid_done (PaidF.start lv l false) HE3.out.le (fun _ => by simp at this; omega)
    · rcases HE3.out with ⟨_, e⟩ | ⟨e, _⟩
      · exact TakesT.shut (by decide) (PartsAt.start 4 lv l) (fun _ => e)
      · cases e
  have HH := hide (HeadT.start (s := 4) (lv := lv) HE3.out)
  have hl3 : l3.length ≤ l.length := HE3.out.le
  have HPF := hide ((PaidF.start lv l false).less (b' := false) hl3 (fun h => h))
  go_wp2
  go_loopw [] (fun wz => ∃ (ns : List ByteArray) (ks : List Tree) (lx : List UInt8) (bx : Bool) (B1 : Option Addr) (m1 d1 : Nat) (us1 : List Value) (B2 : Option Addr) (m2 d2 : Nat) (us2 : List Value) (fi2 : List Nat), KT 4 w wz g lv (.slice B1 m1 d1) ns us1 (.slice B2 m2 d2) ks us2 fi2 lx bx ∧ LenT 4 ns ks ∧ PaidF lv l (bulkStrs ns + ks.length + Tree.bulkS ks) lx bx ∧ HeadT 4 lv l bx ns ks lx) (fun wz => rjMeas wz g)
  case atStart => exact ⟨[], [], l3, false, none, 0, 0, [], none, 0, 0, [], [], H3.out, LenT.nil, HPF.out, HH.out⟩
  case round =>
    obtain ⟨wz, rfl⟩ : ∃ W, W = wr := ⟨_, rfl⟩
    obtain ⟨ns, ks, lx, bx, B1, m1, d1, us1, B2, m2, d2, us2, fi2, hK, hln, hP, hH⟩ := hrel
    have HK := hide hK
    have HPF := hide hP
    have HH := hide hH
    have HLN := hide hln
    have HM := hide hK.rd.meas
    obtain ⟨hb, hbf⟩ := hK.rd.cells
    have lg := hK.rd.lt
    clear hK hP hH hln H3
    rcases bx with _ | _
    rotate_left
    · go_wp2
      go_end0
      exact ⟨ns, ks, lx, true, B1, m1, d1, us1, B2, m2, d2, us2, fi2, rfl, HK.out, by rw [bulk_partsT]; exact paid_done HPF.out (Nat.le_refl _) (fun h => by cases h), TakesT.shut (by decide) (HH.out.dead (l2 := lx)) (fun h => by cases h)⟩
    have hnb : ns.length ≤ 100000 := by have h := HPF.out.2.2 rfl; unfold bulkStrs at h; omega
    have hkb : ks.length ≤ 100000 := by have h := HPF.out.2.2 rfl; omega
    have HPA := hide (HP.out _ _ _ _ _ _ _ _ _ _ _ _ _ HK.out hnb hkb)
    clear hnb hkb
    go_wp2_with fail
    refine HPA.out.mono ?_
    rintro e w4 ⟨nx, k, l2, l4, b2, b4, C1, p1, q1, us1', C2, p2, q2, us2', fi2', rfl, hK4, hnm, hpd, htk, hbb⟩
    have HK4 := hide hK4
    have HF4 := hide (HH.out.part hnm htk)
    have HP4 := hide (show PaidF lv l (bulkStrs (ns ++ nx) + (ks ++ [k]).length + Tree.bulkS (ks ++ [k])) l4 b4 from by
      have e : bulkStrs (ns ++ nx) + (ks ++ [k]).length + Tree.bulkS (ks ++ [k]) = bulkStrs ns + ks.length + Tree.bulkS ks + bulkStrs nx + 1 + k.bulk := by
        rw [bulkStrs_app, tbulkS_snoc, List.length_append, List.length_singleton]
        omega
      rw [e]
      exact HPF.out.part hnm hpd hbb hl6)
    have HLE := hide (show b4 = false → l4.length < lx.length from fun e => by
      have a1 := (hpd.2.2 e).1
      have a2 := hnm.less
      omega)
    have HLN2 := hide (show LenT 4 (ns ++ nx) (ks ++ [k]) from hnm.fits HLN.out)
    have HSK := hide (skip_any hK4.rd ⟨#[93]⟩)
    clear hK4 hnm hpd htk hbb HPA HK HPF HH hb hbf lg HLN
    go_wp2_with fail
    refine HSK.out.mono ?_
    rintro e w5 ⟨ok, l5, rfl, h5, he5, hg5⟩
    have HE5 := hide (show Eaten [93] l4 ok l5 from he5)
    have HK5 := hide (HK4.out.read hgw hg5 h5)
    clear h5 he5 hg5 HK4 HSK
    rcases ok with _ | _
    rotate_left
    · have hlt := HE5.out.lt
      go_wp2
      go_end0
      refine ⟨ns ++ nx, ks ++ [k], l5, b4, C1, p1, q1, us1', C2, p2, q2, us2', fi2', rfl, HK5.out, ?_, ?_⟩
      · rw [bulk_partsT]
        exact paid_done HP4.out (by omega) (fun _ => by simp at hlt; omega)
      · rcases HE5.out with ⟨_, e⟩ | ⟨e, _⟩
        · exact TakesT.shut (by decide) HF4.out (fun _ => e)
        · cases e
    obtain ⟨rfl, hno⟩ := HE5.out.no
    have HNO := hide (show ∀ r, l5 ≠ 93 :: r from hno)
    obtain ⟨hb, hbf⟩ := HK5.out.rd.cells
    have lg := HK5.out.rd.lt
    clear hno HE5
    rcases b4 with _ | _
    rotate_left
    · go_wp2
      refine ⟨⟨ns ++ nx, ks ++ [k], l5, true, C1, p1, q1, us1', C2, p2, q2, us2', fi2', HK5.out.read hgw (grownBy_setCell _ ⟨g, 1, none⟩ _) (HK5.out.rd.setFail true), HLN2.out, HP4.out, HF4.out.dead (l2 := l5)⟩, ?_⟩
      rw [(HK5.out.rd.setFail true).meas, HM.out, if_pos rfl, if_neg (by decide)]
      omega
    have HLE4 := hide (HLE.out rfl)
    have HSK := hide (skip_any HK5.out.rd ⟨#[44]⟩)
    go_wp2_with fail
    refine HSK.out.mono ?_
    rintro e w6 ⟨ok, l6, rfl, h6, he6, hg6⟩
    have HC6 := hide (PartsAt.comma HF4.out rfl HNO.out (show Eaten [44] l5 ok l6 from he6))
    have HL6 := hide (show l6.length ≤ l5.length from he6.le)
    have HK6 := hide (HK5.out.read hgw hg6 h6)
    obtain ⟨hb, hbf⟩ := HK6.out.rd.cells
    have lg := HK6.out.rd.lt
    clear h6 he6 hg6 HK5 HSK
    go_wp2
    refine ⟨⟨ns ++ nx, ks ++ [k], l6, !ok, C1, p1, q1, us1', C2, p2, q2, us2', fi2', HK6.out.read hgw (grownBy_setCell _ ⟨g, 1, none⟩ _) (HK6.out.rd.setFail _), HLN2.out, HP4.out.less HL6.out (fun _ => rfl), HC6.out⟩, ?_⟩
    have e2 : (if false = true then 0 else 1 + lx.length) = 1 + lx.length := if_neg (by decide)
    rw [(HK6.out.rd.setFail (!ok)).meas, HM.out, e2]
    have h1 := HLE4.out
    have h2 := HL6.out
    split <;> omega
set_option maxRecDepth 100000 in
set_option maxHeartbeats 4000000 in
theorem kids5_any {lv : Nat} (hl6 : lv ≤ 6) {w wr : World} {g : Nat} (hgw : g < w.heap.size) (hp : PartAll5 w g lv) {l : List UInt8} (h : KT 5 w wr g lv (.slice none 0 0) [] [] (.slice none 0 0) [] [] [] l false) :
    Calls Tryz.prog 99 #[.pointer (some ⟨g, 0, none⟩), .string ⟨#[125]⟩, .func (.func 101) #[] #[.pointer (some ⟨w.heap.size + 3, 0, none⟩), .pointer (some ⟨w.heap.size, 0, none⟩), .pointer (some ⟨w.heap.size + 1, 0, none⟩)]] wr (KidsOutT 5 w g lv l) := by
  have H := hide h
  have HP := hide hp
  have HSK := hide (skip_any h.rd ⟨#[125]⟩)
  have hlb := h.rd.len
  clear h hp
  go_enter Tryz.func99, Tryz.ntmps99
  go_wp2_with fail
  refine HSK.out.mono ?_
  rintro e w3 ⟨ok, l3, rfl, h3, he3, hg3⟩
  have HE3 := hide (show Eaten [125] l ok l3 from he3)
  have H3 := hide (H.out.read hgw hg3 h3)
  clear h3 he3 hg3 H HSK
  rcases ok with _ | _
  rotate_left
  · go_wp2
    go_end0
    refine ⟨[], [], l3, false, none, 0, 0, [], none, 0, 0, [], [], rfl, H3.out, ?_, ?_⟩
    · have := HE3.out.lt
      exact paid_done (PaidF.start lv l false) HE3.out.le (fun _ => by simp at this; omega)
    · rcases HE3.out with ⟨_, e⟩ | ⟨e, _⟩
      · exact TakesT.shut (by decide) (PartsAt.start 5 lv l) (fun _ => e)
      · cases e
  have HH := hide (HeadT.start (s := 5) (lv := lv) HE3.out)
  have hl3 : l3.length ≤ l.length := HE3.out.le
  have HPF := hide ((PaidF.start lv l false).less (b' := false) hl3 (fun h => h))
  go_wp2
  go_loopw [] (fun wz => ∃ (ns : List ByteArray) (ks : List Tree) (lx : List UInt8) (bx : Bool) (B1 : Option Addr) (m1 d1 : Nat) (us1 : List Value) (B2 : Option Addr) (m2 d2 : Nat) (us2 : List Value) (fi2 : List Nat), KT 5 w wz g lv (.slice B1 m1 d1) ns us1 (.slice B2 m2 d2) ks us2 fi2 lx bx ∧ LenT 5 ns ks ∧ PaidF lv l (bulkStrs ns + ks.length + Tree.bulkS ks) lx bx ∧ HeadT 5 lv l bx ns ks lx) (fun wz => rjMeas wz g)
  case atStart => exact ⟨[], [], l3, false, none, 0, 0, [], none, 0, 0, [], [], H3.out, LenT.nil, HPF.out, HH.out⟩
  case round =>
    obtain ⟨wz, rfl⟩ : ∃ W, W = wr := ⟨_, rfl⟩
    obtain ⟨ns, ks, lx, bx, B1, m1, d1, us1, B2, m2, d2, us2, fi2, hK, hln, hP, hH⟩ := hrel
    have HK := hide hK
    have HPF := hide hP
    have HH := hide hH
    have HLN := hide hln
    have HM := hide hK.rd.meas
    obtain ⟨hb, hbf⟩ := hK.rd.cells
    have lg := hK.rd.lt
    clear hK hP hH hln H3
    rcases bx with _ | _
    rotate_left
    · go_wp2
      go_end0
      exact ⟨ns, ks, lx, true, B1, m1, d1, us1, B2, m2, d2, us2, fi2, rfl, HK.out, by rw [bulk_partsT]; exact paid_done HPF.out (Nat.le_refl _) (fun h => by cases h), TakesT.shut (by decide) (HH.out.dead (l2 := lx)) (fun h => by cases h)⟩
    have hnb : ns.length ≤ 100000 := by have h := HPF.out.2.2 rfl; unfold bulkStrs at h; omega
    have hkb : ks.length ≤ 100000 := by have h := HPF.out.2.2 rfl; omega
    have HPA := hide (HP.out _ _ _ _ _ _ _ _ _ _ _ _ _ HK.out hnb hkb)
    clear hnb hkb
    go_wp2_with fail
    refine HPA.out.mono ?_
    rintro e w4 ⟨nx, k, l2, l4, b2, b4, C1, p1, q1, us1', C2, p2, q2, us2', fi2', rfl, hK4, hnm, hpd, htk, hbb⟩
    have HK4 := hide hK4
    have HF4 := hide (HH.out.part hnm htk)
    have HP4 := hide (show PaidF lv l (bulkStrs (ns ++ nx) + (ks ++ [k]).length + Tree.bulkS (ks ++ [k])) l4 b4 from by
      have e : bulkStrs (ns ++ nx) + (ks ++ [k]).length + Tree.bulkS (ks ++ [k]) = bulkStrs ns + ks.length + Tree.bulkS ks + bulkStrs nx + 1 + k.bulk := by
        rw [bulkStrs_app, tbulkS_snoc, List.length_append, List.length_singleton]
        omega
      rw [e]
      exact HPF.out.part hnm hpd hbb hl6)
    have HLE := hide (show b4 = false → l4.length < lx.length from fun e => by
      have a1 := (hpd.2.2 e).1
      have a2 := hnm.less
      omega)
    have HLN2 := hide (show LenT 5 (ns ++ nx) (ks ++ [k]) from hnm.fits HLN.out)
    have HSK := hide (skip_any hK4.rd ⟨#[125]⟩)
    clear hK4 hnm hpd htk hbb HPA HK HPF HH hb hbf lg HLN
    go_wp2_with fail
    refine HSK.out.mono ?_
    rintro e w5 ⟨ok, l5, rfl, h5, he5, hg5⟩
    have HE5 := hide (show Eaten [125] l4 ok l5 from he5)
    have HK5 := hide (HK4.out.read hgw hg5 h5)
    clear h5 he5 hg5 HK4 HSK
    rcases ok with _ | _
    rotate_left
    · have hlt := HE5.out.lt
      go_wp2
      go_end0
      refine ⟨ns ++ nx, ks ++ [k], l5, b4, C1, p1, q1, us1', C2, p2, q2, us2', fi2', rfl, HK5.out, ?_, ?_⟩
      · rw [bulk_partsT]
        exact paid_done HP4.out (by omega) (fun _ => by simp at hlt; omega)
      · rcases HE5.out with ⟨_, e⟩ | ⟨e, _⟩
        · exact TakesT.shut (by decide) HF4.out (fun _ => e)
        · cases e
    obtain ⟨rfl, hno⟩ := HE5.out.no
    have HNO := hide (show ∀ r, l5 ≠ 125 :: r from hno)
    obtain ⟨hb, hbf⟩ := HK5.out.rd.cells
    have lg := HK5.out.rd.lt
    clear hno HE5
    rcases b4 with _ | _
    rotate_left
    · go_wp2
      refine ⟨⟨ns ++ nx, ks ++ [k], l5, true, C1, p1, q1, us1', C2, p2, q2, us2', fi2', HK5.out.read hgw (grownBy_setCell _ ⟨g, 1, none⟩ _) (HK5.out.rd.setFail true), HLN2.out, HP4.out, HF4.out.dead (l2 := l5)⟩, ?_⟩
      rw [(HK5.out.rd.setFail true).meas, HM.out, if_pos rfl, if_neg (by decide)]
      omega
    have HLE4 := hide (HLE.out rfl)
    have HSK := hide (skip_any HK5.out.rd ⟨#[44]⟩)
    go_wp2_with fail
    refine HSK.out.mono ?_
    rintro e w6 ⟨ok, l6, rfl, h6, he6, hg6⟩
    have HC6 := hide (PartsAt.comma HF4.out rfl HNO.out (show Eaten [44] l5 ok l6 from he6))
    have HL6 := hide (show l6.length ≤ l5.length from he6.le)
    have HK6 := hide (HK5.out.read hgw hg6 h6)
    obtain ⟨hb, hbf⟩ := HK6.out.rd.cells
    have lg := HK6.out.rd.lt
    clear h6 he6 hg6 HK5 HSK
    go_wp2
    refine ⟨⟨ns ++ nx, ks ++ [k], l6, !ok, C1, p1, q1, us1', C2, p2, q2, us2', fi2', HK6.out.read hgw (grownBy_setCell _ ⟨g, 1, none⟩ _) (HK6.out.rd.setFail _), HLN2.out, HP4.out.less HL6.out (fun _ => rfl), HC6.out⟩, ?_⟩
    have e2 : (if false = true then 0 else 1 + lx.length) = 1 + lx.length := if_neg (by decide)
    rw [(HK6.out.rd.setFail (!ok)).meas, HM.out, e2]
    have h1 := HLE4.out
    have h2 := HL6.out
    split <;> omega
end Go.Proofs.YtnaecdoeldoipaaGreatDoor
set_option linter.unusedVariables false
set_option linter.unusedSimpArgs false
namespace Go.Proofs.YtnaecdoeldoipaaGreatDoor
open Go.ChangeShapes Go.WideShapes Go.ChangeAt Go.RowKit

/-- ahead of and behind the parts: the boxes -/
structure ST (w W : World) (g lv : Nat) (vs : List Value) (l : List UInt8) (fail : Bool) : Prop where
  kb : Row W (w.heap.size + 3) 26 vs
  rd : RdJ W g l fail
  rb : Row W w.heap.size 65 [.pointer (some ⟨g, 0, none⟩)]
  lb : Row W (w.heap.size + 1) 3 [.int .i64 (lv : Int)]
  zb : Row W (w.heap.size + 2) 26 [.int .i64 0, .int .i64 0, .string .empty, .slice none 0 0, .slice none 0 0]
  gr : w.grownBy W (some g)
section
variable {w W W' : World} {g lv : Nat} {vs vs' : List Value} {l l' : List UInt8} {fail fail' : Bool}
theorem ST.read (h : ST w W g lv vs l fail) (hgw : g < w.heap.size) (hg : W.grownBy W' (some g)) (hr : RdJ W' g l' fail') : ST w W' g lv vs l' fail' :=
  ⟨h.kb.grown hg (fun e => by injection e with e; omega), hr, h.rb.grown hg (fun e => by injection e with e; omega), h.lb.grown hg (fun e => by injection e with e; omega), h.zb.grown hg (fun e => by injection e with e; omega), only_trans h.gr hg⟩
theorem ST.put (h : ST w W g lv vs l fail) (hgw : g < w.heap.size) (hb : Below (w.heap.size + 3) W W') (hk : Row W' (w.heap.size + 3) 26 vs') : ST w W' g lv vs' l fail :=
  ⟨hk, h.rd.low hb (by omega), h.rb.below hb (by omega), h.lb.below hb (by omega), h.zb.below hb (by omega), only_lowR h.gr hb (by omega)⟩
theorem ST.below (h : ST w W g lv vs l fail) (hgw : g < w.heap.size) (hb : Below W.heap.size W W') : ST w W' g lv vs l fail :=
  h.put hgw (hb.mono (Nat.le_of_lt h.kb.lt)) (h.kb.below hb h.kb.lt)
theorem ST.drewN (h : ST w W g lv vs l fail) (hgw : g < w.heap.size) (n : Nat) : ST w (W.drewN n) g lv vs l fail := h.below hgw (below_drewN (Below.refl _ _) n)
theorem ST.drew (h : ST w W g lv vs l fail) (hgw : g < w.heap.size) : ST w W.drew g lv vs l fail := h.below hgw (Below.refl _ _).drew
/-- a cell of the tree's box is stored -/
theorem ST.set (h : ST w W g lv vs l fail) (hgw : g < w.heap.size) (j : Nat) (v : Value) : ST w (W.setCell ⟨w.heap.size + 3, j, none⟩ v) g lv (vs.set j v) l fail :=
  h.put hgw ((Below.refl _ _).setCell (p := ⟨w.heap.size + 3, j, none⟩) (Nat.le_refl _) v) (h.kb.set j v)
theorem ST.toKT {S : Int} (h : ST w W g lv (treeMkR S (.slice none 0 0) (.slice none 0 0)) l fail) : KT S w W g lv (.slice none 0 0) [] [] (.slice none 0 0) [] [] [] l fail :=
  ⟨⟨h.kb, OwS.nil _ _ _ _ _, OwS.nil _ _ _ _ _, Nat.lt_succ_self _, fun g h => (by cases h), fun g h => (by cases h), fun g h => (by cases h), fun g h => (by cases h)⟩, h.rd, h.rb, h.lb, h.zb, h.gr⟩
end
theorem fl_eqT {fl bad : Bool} {p : Prop} (h : fl = true ↔ (bad = true ∨ p)) (hp : ¬ p) : fl = bad := by cases fl <;> cases bad <;> simp_all
/-- what the tree's texts begin with, when they are quoted -/
theorem textTakenJ {l l1 l2 l3 : List UInt8} {x : ByteArray} {ok : Bool} (he : Eaten [34] l true l1) (hu : Until 34 l1 x l2) (h3 : Eaten [34] l2 ok l3) : TextTaken l false x l3 (!ok) := by
  intro y R hy _ e
  obtain ⟨_, rfl⟩ := he.yes (r := bl y ++ 34 :: R) e
  obtain ⟨h1, h2⟩ := hu.at hy rfl
  obtain ⟨rfl, rfl⟩ := h3.yes (r := R) (by rw [h2]; rfl)
  exact ⟨bl_inj h1, rfl, rfl⟩
theorem textPaidJ {lv : Nat} {l l1 l2 l3 : List UInt8} {x : ByteArray} {ok : Bool} (he : Eaten [34] l true l1) (hu : Until 34 l1 x l2) (h3 : Eaten [34] l2 ok l3) : Paid lv l (Tree.mk 2 0 x [] []).bulk l3 (!ok) := by
  rw [Tree.bulk_text]
  have h1 := he.lt
  have h2 := congrArg List.length hu.1
  rw [List.length_append, bl_len] at h2
  have h4 := h3.le
  simp only [List.length_cons, List.length_nil] at h1
  exact ⟨by omega, by omega, fun _ => by omega⟩
theorem numHeadJ {l : List UInt8} (h1 : ∀ r, l ≠ [91] ++ r) (h2 : ∀ r, l ≠ [123] ++ r) (h3 : ∀ r, l ≠ [126] ++ r) (h4 : ∀ r, l ≠ [63] ++ r) (h5 : ∀ r, l ≠ [34] ++ r) (h6 : ∀ r, l ≠ [121, 101, 115] ++ r) (h7 : ∀ r, l ≠ [110, 111] ++ r) {lv : Nat} {n : Int} {l' : List UInt8} {b' : Bool} (ht : NumTaken l false n l' b') : TakesT lv l false (.mk 1 n .empty [] []) l' b' := by
  intro k0 R hg hR hb e
  rcases Tree.read_cases hg l R e with ⟨z, rfl, hz, e⟩ | ⟨y, _, _, _, e⟩ | ⟨_, e⟩ | ⟨_, e⟩ | ⟨ks, _, _, e⟩ | ⟨ns, ks, _, _, _, e⟩ | ⟨_, e⟩ | ⟨y, _, _, e⟩
  · obtain ⟨rfl, h1, h2⟩ := ht z R hz hR hb e
    exact ⟨rfl, h1, h2⟩
  · exact absurd e (h5 _)
  · exact absurd e (h6 _)
  · exact absurd e (h7 _)
  · exact absurd e (h1 _)
  · exact absurd e (h2 _)
  · exact absurd e (h3 _)
  · exact absurd e (h4 _)
set_option maxRecDepth 100000 in
set_option maxHeartbeats 8000000 in
theorem treeRdI_of (f : Nat) (ih : ∀ f', f = f' + 1 → TreeRdI f') (hpart4 : ∀ (f' lv : Nat), lv + 1 + f' = 7 → 1 ≤ lv → TreeRdI f' → ∀ (w : World) (g : Nat), Lay w → 5 < g → g < w.heap.size → PartAll4 w g lv) (hpart5 : ∀ (f' lv : Nat), lv + 1 + f' = 7 → 1 ≤ lv → TreeRdI f' → ∀ (w : World) (g : Nat), Lay w → 5 < g → g < w.heap.size → PartAll5 w g lv) : TreeRdI f := by
  intro l bad g lv w hlf hlv hlay h7 h
  have hgw := h.lt
  have HR0 := hide h
  have HIH := hide ih
  have HPT4 := hide hpart4
  have HPT5 := hide hpart5
  have HLY := hide (fun (W : World) (hgr : w.grownBy W (some g)) => show Lay W from hlay.far hgr h7 hgw)
  have HL0 := hide hlay
  have H7 := hide h7
  have HEND := hide (fun (W : World) (k : Tree) (vs : List Value) (fq : List Nat) (l' : List UInt8) (bad' : Bool) (hz : w.heap.size + 2 < W.heap.size) (ho : OwC W k.cells vs fq) (hn : New W fq (w.heap.size + 3)) (hr : RdJ W g l' bad') (hg : w.grownBy W (some g)) (hp : Paid lv l k.bulk l' bad') (ht : TakesT lv l bad k l' bad') (hbb : bad' = false → bad = false) =>
    show TreeOutR (fun w l b => RdJ w g l b) g lv l bad w (.returned (.agg vs.toArray)) (putN W (w.heap.size + 2) 0 vs) from by
      have hgr := setN_grown vs 0 (grown_refl W (some (w.heap.size + 2)))
      have hno : w.heap.size + 2 ∉ fq := hn.out (by omega)
      have hb : Below w.heap.size W (putN W (w.heap.size + 2) 0 vs) := below_of_grown hgr (by omega) (by omega)
      exact ⟨k, vs, fq, l', bad', rfl, ho.grown hgr hn.lt hno, (hn.grown hgr (fun b e => by injection e with e; subst e; exact hno)).mono (by omega), hr.low hb hgw, only_lowR hg hb (Nat.le_refl _), hp, ht, hbb⟩)
  clear h ih hpart4 hpart5 hlay h7
  go_enter Tryz.func47, Tryz.ntmps47
  go_upto_region 1 with fail
  generalize hw1 : World.alloc _ _ = w1
  have hb1 : Below w.heap.size w w1 := by rw [← hw1]; exact (((Below.refl _ _).alloc (Nat.le_refl _) _).alloc (by rw [World.size_alloc]; omega) _).alloc (by rw [World.size_alloc, World.size_alloc]; omega) _
  have hsz1 : w1.heap.size = w.heap.size + 3 := by rw [← hw1, World.size_alloc, World.size_alloc, World.size_alloc]
  have HRB := hide (show Row w1 w.heap.size 65 [.pointer (some ⟨g, 0, none⟩)] from by rw [← hw1]; exact ((Row.new w _ _).alloc _).alloc _)
  have HLB := hide (show Row w1 (w.heap.size + 1) 3 [.int .i64 (lv : Int)] from by
    rw [← hw1]
    have h := Row.new (w.alloc (.cells #[.pointer (some ⟨g, 0, none⟩)] 65)) 3 [.int .i64 (lv : Int)]
    rw [World.size_alloc] at h
    exact h.alloc _)
  have HZB := hide (show Row w1 (w.heap.size + 2) 26 [.int .i64 0, .int .i64 0, .string .empty, .slice none 0 0, .slice none 0 0] from by
    rw [← hw1]
    have h := Row.new ((w.alloc (.cells #[.pointer (some ⟨g, 0, none⟩)] 65)).alloc (.cells #[.int .i64 (lv : Int)] 3)) 26 [.int .i64 0, .int .i64 0, .string .empty, .slice none 0 0, .slice none 0 0]
    rw [World.size_alloc, World.size_alloc] at h
    exact h)
  have HR1 := hide (HR0.out.below hb1)
  have HG1 := hide (grownBy_below hb1 (some g))
  have r0 := HRB.out.cell 0
  have l0 := HLB.out.cell 0
  have lr := HRB.out.lt
  have ll := HLB.out.lt
  obtain ⟨hbc, hbf⟩ := HR1.out.cells
  have lg := HR1.out.lt
  clear hw1 hb1 HR0
  -- the level, and the box of the result
  have hsj : ∃ fl : Bool, (fl = true ↔ (bad = true ∨ 6 < lv)) := by
    by_cases h : bad = true ∨ 6 < lv
    · exact ⟨true, by simp [h]⟩
    · exact ⟨false, by simp [h]⟩
  obtain ⟨fl, hfl⟩ := hsj
  have HFL := hide hfl
  clear hfl
  by_cases hd : 6 < lv
  case' pos =>
    have hdi : (6 : Int) < (lv : Int) := by omega
    go_upto_region 6 with fail
    generalize hw2 : World.alloc _ _ = w2
    obtain rfl : fl = true := HFL.out.2 (.inr hd)
    have hgs := only_setCell (p := ⟨g, 1, none⟩) (grown_refl w1 (some g)) (.inl rfl) (.bool true)
    have hbn : Below (w1.setCell ⟨g, 1, none⟩ (.bool true)).heap.size (w1.setCell ⟨g, 1, none⟩ (.bool true)) w2 := by rw [← hw2]; exact (Below.refl _ _).alloc (Nat.le_refl _) _
    have hszn : (w1.setCell ⟨g, 1, none⟩ (.bool true)).heap.size = w.heap.size + 3 := by simpa [World.setCell] using hsz1
    have HS := hide (show ST w w2 g lv [.int .i64 0, .int .i64 0, .string .empty, .slice none 0 0, .slice none 0 0] l true from by
      have hk : Row w2 (w.heap.size + 3) 26 [.int .i64 0, .int .i64 0, .string .empty, .slice none 0 0, .slice none 0 0] := by
        have h := Row.new (w1.setCell ⟨g, 1, none⟩ (.bool true)) 26 [.int .i64 0, .int .i64 0, .string .empty, .slice none 0 0, .slice none 0 0]
        rw [hszn] at h
        rw [← hw2]
        exact h
      exact ⟨hk, (HR1.out.setFail true).below hbn, (HRB.out.grown hgs (fun e => by injection e with e; omega)).below hbn (by omega), (HLB.out.grown hgs (fun e => by injection e with e; omega)).below hbn (by omega), (HZB.out.grown hgs (fun e => by injection e with e; omega)).below hbn (by omega), only_lowR (only_trans HG1.out hgs) hbn (by omega)⟩)
    clear hw2 hgs hbn hszn hdi hbc hbf r0 l0 lr ll HRB HLB HZB HR1 HG1 lg hsz1
  case' neg =>
    have hdi : ¬ ((6 : Int) < (lv : Int)) := by omega
    go_upto_region 6 with fail
    generalize hw2 : World.alloc _ _ = w2
    have hbn : Below w1.heap.size w1 w2 := by rw [← hw2]; exact (Below.refl _ _).alloc (Nat.le_refl _) _
    obtain rfl : fl = bad := by
      exact fl_eqT HFL.out hd
    have HS := hide (show ST w w2 g lv [.int .i64 0, .int .i64 0, .string .empty, .slice none 0 0, .slice none 0 0] l fl from by
      have hk : Row w2 (w.heap.size + 3) 26 [.int .i64 0, .int .i64 0, .string .empty, .slice none 0 0, .slice none 0 0] := by
        have h := Row.new w1 26 [.int .i64 0, .int .i64 0, .string .empty, .slice none 0 0, .slice none 0 0]
        rw [hsz1] at h
        rw [← hw2]
        exact h
      exact ⟨hk, HR1.out.below hbn, HRB.out.below hbn (by omega), HLB.out.below hbn (by omega), HZB.out.below hbn (by omega), only_lowR HG1.out hbn (by omega)⟩)
    clear hw2 hbn hdi hbc hbf r0 l0 lr ll HRB HLB HZB HR1 HG1 lg hsz1
  case' neg => rcases fl with _ | _
  case pos =>
    have HT := hide (show TakesT lv l bad (.mk 0 0 .empty [] []) l true from TakesT.deep hd)
    have r0 := HS.out.rb.cell 0
    have rl := HS.out.rb.lt
    have l0 := HS.out.lb.cell 0
    have ll := HS.out.lb.lt
    obtain ⟨hbc, hbf⟩ := HS.out.rd.cells
    have lg := HS.out.rd.lt
    have q0 := HS.out.kb.cell 0
    have p0 := HS.out.kb.frozen 0
    have q1 := HS.out.kb.cell 1
    have p1 := HS.out.kb.frozen 1
    have q2 := HS.out.kb.cell 2
    have p2 := HS.out.kb.frozen 2
    have q3 := HS.out.kb.cell 3
    have p3 := HS.out.kb.frozen 3
    have q4 := HS.out.kb.cell 4
    have p4 := HS.out.kb.frozen 4
    have z0 := HS.out.zb.cell 0
    have y0 := HS.out.zb.frozen 0
    have z1 := HS.out.zb.cell 1
    have y1 := HS.out.zb.frozen 1
    have z2 := HS.out.zb.cell 2
    have y2 := HS.out.zb.frozen 2
    have z3 := HS.out.zb.cell 3
    have y3 := HS.out.zb.frozen 3
    have z4 := HS.out.zb.cell 4
    have y4 := HS.out.zb.frozen 4
    have lk := HS.out.kb.lt
    have lz := HS.out.zb.lt
    go_wp2
    refine bodyPost_ret (ret_row rfl _ _ (w.heap.size + 2) 26 [.int .i64 0, .int .i64 0, .string .empty, .slice none 0 0, .slice none 0 0] (HS.out.zb.setAll [.int .i64 0, .int .i64 0, .string .empty, .slice none 0 0, .slice none 0 0] rfl) _ rfl Tryz.underlying26 rfl (by kernel_rfl)) rfl ?_
    exact HEND.out w2 (.mk 0 0 .empty [] []) _ [] l true HS.out.zb.lt (tleaf_ow (s := 0) (n := 0) (x := .empty) _ (by decide) (by decide) (by decide)) (New.nil _ _) HS.out.rd HS.out.gr (Paid.none lv l) HT.out (fun h => by cases h)
  case neg.true =>
    have HT := hide (show TakesT lv l true (.mk 0 0 .empty [] []) l true from TakesT.bad)
    have r0 := HS.out.rb.cell 0
    have rl := HS.out.rb.lt
    have l0 := HS.out.lb.cell 0
    have ll := HS.out.lb.lt
    obtain ⟨hbc, hbf⟩ := HS.out.rd.cells
    have lg := HS.out.rd.lt
    have q0 := HS.out.kb.cell 0
    have p0 := HS.out.kb.frozen 0
    have q1 := HS.out.kb.cell 1
    have p1 := HS.out.kb.frozen 1
    have q2 := HS.out.kb.cell 2
    have p2 := HS.out.kb.frozen 2
    have q3 := HS.out.kb.cell 3
    have p3 := HS.out.kb.frozen 3
    have q4 := HS.out.kb.cell 4
    have p4 := HS.out.kb.frozen 4
    have z0 := HS.out.zb.cell 0
    have y0 := HS.out.zb.frozen 0
    have z1 := HS.out.zb.cell 1
    have y1 := HS.out.zb.frozen 1
    have z2 := HS.out.zb.cell 2
    have y2 := HS.out.zb.frozen 2
    have z3 := HS.out.zb.cell 3
    have y3 := HS.out.zb.frozen 3
    have z4 := HS.out.zb.cell 4
    have y4 := HS.out.zb.frozen 4
    have lk := HS.out.kb.lt
    have lz := HS.out.zb.lt
    go_wp2
    refine bodyPost_ret (ret_row rfl _ _ (w.heap.size + 2) 26 [.int .i64 0, .int .i64 0, .string .empty, .slice none 0 0, .slice none 0 0] (HS.out.zb.setAll [.int .i64 0, .int .i64 0, .string .empty, .slice none 0 0, .slice none 0 0] rfl) _ rfl Tryz.underlying26 rfl (by kernel_rfl)) rfl ?_
    exact HEND.out w2 (.mk 0 0 .empty [] []) _ [] l true HS.out.zb.lt (tleaf_ow (s := 0) (n := 0) (x := .empty) _ (by decide) (by decide) (by decide)) (New.nil _ _) HS.out.rd HS.out.gr (Paid.none lv l) HT.out (fun h => by cases h)
  case neg.false =>
    have hd6 : lv ≤ 6 := Nat.not_lt.1 hd
    obtain ⟨f', rfl⟩ : ∃ f', f = f' + 1 := ⟨f - 1, by omega⟩
    have HI := hide (HIH.out f' rfl)
    have HPA4 := hide (HPT4.out f' lv (by omega) hlv HI.out w g HL0.out H7.out hgw)
    have HPA5 := hide (HPT5.out f' lv (by omega) hlv HI.out w g HL0.out H7.out hgw)
    have hwd : IntKind.i64.wrap ((lv : Int) + 1) = (lv : Int) + 1 := wrapI _ (by omega) (by omega)
    have HIK := hide (fun (W : World) (l : List UInt8) (bad : Bool) (hgr : w.grownBy W (some g)) (h : RdJ W g l bad) => show Calls Tryz.prog 47 #[.pointer (some ⟨g, 0, none⟩), .int .i64 ((lv : Int) + 1)] W (TreeOutR (fun w l b => RdJ w g l b) g (lv + 1) l bad W) from by
      have h := HI.out l bad g (lv + 1) W (by omega) (by omega) (HLY.out W hgr) H7.out h
      rw [show ((lv + 1 : Nat) : Int) = (lv : Int) + 1 by omega] at h
      exact h)
    clear HIH HPT4 HPT5 HFL
    have r0 := HS.out.rb.cell 0
    have rl := HS.out.rb.lt
    obtain ⟨hbc, hbf⟩ := HS.out.rd.cells
    have lg := HS.out.rd.lt
    have HSK := hide (skip_any HS.out.rd ⟨#[91]⟩)
    go_wp2_with fail
    refine HSK.out.mono ?_
    rintro e w3 ⟨ok, l1, rfl, hr, he, hg⟩
    have HE1 := hide (show Eaten [91] l ok l1 from he)
    replace HS := hide (HS.out.read hgw hg hr)
    clear r0 rl HSK hr he hg hbc hbf lg
    rcases ok with _ | _
    rotate_left
    · skip
      obtain rfl : l = 91 :: l1 := by rcases HE1.out with ⟨_, h⟩ | ⟨h, _⟩ <;> first | exact h | cases h
      have q0 := HS.out.kb.cell 0
      have p0 := HS.out.kb.frozen 0
      have q1 := HS.out.kb.cell 1
      have p1 := HS.out.kb.frozen 1
      have q2 := HS.out.kb.cell 2
      have p2 := HS.out.kb.frozen 2
      have q3 := HS.out.kb.cell 3
      have p3 := HS.out.kb.frozen 3
      have q4 := HS.out.kb.cell 4
      have p4 := HS.out.kb.frozen 4
      have lk := HS.out.kb.lt
      have r0 := HS.out.rb.cell 0
      have rl := HS.out.rb.lt
      replace HS := hide (HS.out.set hgw 0 (.int .i64 4))
      have HKD := hide (kids4_any hd6 hgw HPA4.out (ST.toKT (S := 4) HS.out))
      go_wp2_with fail
      refine HKD.out.mono ?_
      rintro e w9 ⟨ns, ks, l9, b9, B1, n1, d1, us1, B2, n2, d2, us2, fi2, rfl, hk, hpd, htk⟩
      have HK := hide hk
      have HPD := hide hpd
      have HTK := hide htk
      clear q0 p0 q1 p1 q2 p2 q3 p3 q4 p4 lk r0 rl HKD hk hpd htk
      have q0 := HK.out.two.box.cell 0
      have q1 := HK.out.two.box.cell 1
      have q2 := HK.out.two.box.cell 2
      have q3 := HK.out.two.box.cell 3
      have q4 := HK.out.two.box.cell 4
      have z0 := HK.out.zb.cell 0
      have y0 := HK.out.zb.frozen 0
      have z1 := HK.out.zb.cell 1
      have y1 := HK.out.zb.frozen 1
      have z2 := HK.out.zb.cell 2
      have y2 := HK.out.zb.frozen 2
      have z3 := HK.out.zb.cell 3
      have y3 := HK.out.zb.frozen 3
      have z4 := HK.out.zb.cell 4
      have y4 := HK.out.zb.frozen 4
      have lk := HK.out.two.box.lt
      have lz := HK.out.zb.lt
      go_wp2
      obtain ⟨fq, ho, hnw⟩ := tform_ow HK.out.two (by decide)
      refine bodyPost_ret (ret_row rfl _ _ (w.heap.size + 2) 26 (treeMkR 4 (.slice B1 n1 d1) (.slice B2 n2 d2)) (HK.out.zb.setAll (treeMkR 4 (.slice B1 n1 d1) (.slice B2 n2 d2)) rfl) _ rfl Tryz.underlying26 rfl (by kernel_rfl)) rfl ?_
      exact HEND.out _ (.mk 4 0 .empty ns ks) _ fq l9 b9 HK.out.zb.lt ho (hnw.mono (by omega)) HK.out.rd HK.out.gr HPD.out HTK.out (fun _ => by first | rfl | trivial)
    obtain ⟨e1, hno1⟩ := HE1.out.no
    replace e1 := e1.symm
    subst e1
    have HNO1 := hide (show ∀ r, l ≠ [91] ++ r from hno1)
    clear hno1 HE1
    have r0 := HS.out.rb.cell 0
    have rl := HS.out.rb.lt
    have HSK := hide (skip_any HS.out.rd ⟨#[123]⟩)
    go_wp2_with fail
    refine HSK.out.mono ?_
    rintro e w4 ⟨ok, l2, rfl, hr, he, hg⟩
    have HE2 := hide (show Eaten [123] l ok l2 from he)
    replace HS := hide (HS.out.read hgw hg hr)
    clear r0 rl HSK hr he hg
    rcases ok with _ | _
    rotate_left
    · skip
      obtain rfl : l = 123 :: l2 := by rcases HE2.out with ⟨_, h⟩ | ⟨h, _⟩ <;> first | exact h | cases h
      have q0 := HS.out.kb.cell 0
      have p0 := HS.out.kb.frozen 0
      have q1 := HS.out.kb.cell 1
      have p1 := HS.out.kb.frozen 1
      have q2 := HS.out.kb.cell 2
      have p2 := HS.out.kb.frozen 2
      have q3 := HS.out.kb.cell 3
      have p3 := HS.out.kb.frozen 3
      have q4 := HS.out.kb.cell 4
      have p4 := HS.out.kb.frozen 4
      have lk := HS.out.kb.lt
      have r0 := HS.out.rb.cell 0
      have rl := HS.out.rb.lt
      replace HS := hide (HS.out.set hgw 0 (.int .i64 5))
      have HKD := hide (kids5_any hd6 hgw HPA5.out (ST.toKT (S := 5) HS.out))
      go_wp2_with fail
      refine HKD.out.mono ?_
      rintro e w9 ⟨ns, ks, l9, b9, B1, n1, d1, us1, B2, n2, d2, us2, fi2, rfl, hk, hpd, htk⟩
      have HK := hide hk
      have HPD := hide hpd
      have HTK := hide htk
      clear q0 p0 q1 p1 q2 p2 q3 p3 q4 p4 lk r0 rl HKD hk hpd htk
      have q0 := HK.out.two.box.cell 0
      have q1 := HK.out.two.box.cell 1
      have q2 := HK.out.two.box.cell 2
      have q3 := HK.out.two.box.cell 3
      have q4 := HK.out.two.box.cell 4
      have z0 := HK.out.zb.cell 0
      have y0 := HK.out.zb.frozen 0
      have z1 := HK.out.zb.cell 1
      have y1 := HK.out.zb.frozen 1
      have z2 := HK.out.zb.cell 2
      have y2 := HK.out.zb.frozen 2
      have z3 := HK.out.zb.cell 3
      have y3 := HK.out.zb.frozen 3
      have z4 := HK.out.zb.cell 4
      have y4 := HK.out.zb.frozen 4
      have lk := HK.out.two.box.lt
      have lz := HK.out.zb.lt
      go_wp2
      obtain ⟨fq, ho, hnw⟩ := tform_ow HK.out.two (by decide)
      refine bodyPost_ret (ret_row rfl _ _ (w.heap.size + 2) 26 (treeMkR 5 (.slice B1 n1 d1) (.slice B2 n2 d2)) (HK.out.zb.setAll (treeMkR 5 (.slice B1 n1 d1) (.slice B2 n2 d2)) rfl) _ rfl Tryz.underlying26 rfl (by kernel_rfl)) rfl ?_
      exact HEND.out _ (.mk 5 0 .empty ns ks) _ fq l9 b9 HK.out.zb.lt ho (hnw.mono (by omega)) HK.out.rd HK.out.gr HPD.out HTK.out (fun _ => by first | rfl | trivial)
    obtain ⟨e2, hno2⟩ := HE2.out.no
    replace e2 := e2.symm
    subst e2
    have HNO2 := hide (show ∀ r, l ≠ [123] ++ r from hno2)
    clear hno2 HE2
    have r0 := HS.out.rb.cell 0
    have rl := HS.out.rb.lt
    have HSK := hide (skip_any HS.out.rd ⟨#[126]⟩)
    go_wp2_with fail
    refine HSK.out.mono ?_
    rintro e w5 ⟨ok, l3, rfl, hr, he, hg⟩
    have HE3 := hide (show Eaten [126] l ok l3 from he)
    replace HS := hide (HS.out.read hgw hg hr)
    clear r0 rl HSK hr he hg
    rcases ok with _ | _
    rotate_left
    · skip
      have r0 := HS.out.rb.cell 0
      have rl := HS.out.rb.lt
      have l0 := HS.out.lb.cell 0
      have ll := HS.out.lb.lt
      obtain ⟨hbc, hbf⟩ := HS.out.rd.cells
      have lg := HS.out.rd.lt
      have q0 := HS.out.kb.cell 0
      have p0 := HS.out.kb.frozen 0
      have q1 := HS.out.kb.cell 1
      have p1 := HS.out.kb.frozen 1
      have q2 := HS.out.kb.cell 2
      have p2 := HS.out.kb.frozen 2
      have q3 := HS.out.kb.cell 3
      have p3 := HS.out.kb.frozen 3
      have q4 := HS.out.kb.cell 4
      have p4 := HS.out.kb.frozen 4
      have z0 := HS.out.zb.cell 0
      have y0 := HS.out.zb.frozen 0
      have z1 := HS.out.zb.cell 1
      have y1 := HS.out.zb.frozen 1
      have z2 := HS.out.zb.cell 2
      have y2 := HS.out.zb.frozen 2
      have z3 := HS.out.zb.cell 3
      have y3 := HS.out.zb.frozen 3
      have z4 := HS.out.zb.cell 4
      have y4 := HS.out.zb.frozen 4
      have lk := HS.out.kb.lt
      have lz := HS.out.zb.lt
      replace HS := hide (HS.out.set hgw 0 (.int .i64 6))
      go_wp2
      refine bodyPost_ret (ret_row rfl _ _ (w.heap.size + 2) 26 [.int .i64 6, .int .i64 0, .string .empty, .slice none 0 0, .slice none 0 0] (HS.out.zb.setAll [.int .i64 6, .int .i64 0, .string .empty, .slice none 0 0, .slice none 0 0] rfl) _ rfl Tryz.underlying26 rfl (by kernel_rfl)) rfl ?_
      exact HEND.out _ (.mk 6 0 .empty [] []) _ [] l3 false HS.out.zb.lt (tleaf_ow (s := 6) (n := 0) (x := .empty) _ (by decide) (by decide) (by decide)) (New.nil _ _) HS.out.rd HS.out.gr (Paid.leaf (by decide) HE3.out _ rfl) (TakesT.tilde HE3.out (eaten_head HE3.out)) (fun _ => by first | rfl | trivial)
    obtain ⟨e3, hno3⟩ := HE3.out.no
    replace e3 := e3.symm
    subst e3
    have HNO3 := hide (show ∀ r, l ≠ [126] ++ r from hno3)
    clear hno3 HE3
    have r0 := HS.out.rb.cell 0
    have rl := HS.out.rb.lt
    have HSK := hide (skip_any HS.out.rd ⟨#[63]⟩)
    go_wp2_with fail
    refine HSK.out.mono ?_
    rintro e w6 ⟨ok, l4, rfl, hr, he, hg⟩
    have HE4 := hide (show Eaten [63] l ok l4 from he)
    replace HS := hide (HS.out.read hgw hg hr)
    clear r0 rl HSK hr he hg
    rcases ok with _ | _
    rotate_left
    · skip
      have r0 := HS.out.rb.cell 0
      have rl := HS.out.rb.lt
      have l0 := HS.out.lb.cell 0
      have ll := HS.out.lb.lt
      have hkb := HS.out.kb.lt
      have HKC := hide (HIK.out _ _ _ HS.out.gr HS.out.rd)
      go_wp2_with fail
      refine HKC.out.mono ?_
      rintro e wk ⟨k, us, fq, lk5, b5, rfl, ho5, hn5, hr5, hg5, hp5, ht5, hb5⟩
      have HN5 := hide (hn5.mono (show w.heap.size + 3 + 1 ≤ w6.heap.size from hkb))
      replace HS := hide (HS.out.read hgw hg5 hr5)
      obtain ⟨B1, d1, B2, d2, j1, j2, rfl, k0, k0b, k0c, k1, k2, efq⟩ := ho5.oTree
      have HO5 := hide ho5
      have HP5 := hide hp5
      have HT5 := hide ht5
      have HB5 := hide hb5
      clear r0 rl l0 ll hkb HKC ho5 hn5 hr5 hg5 hp5 ht5 hb5 k1 k2 efq
      have q0 := HS.out.kb.cell 0
      have p0 := HS.out.kb.frozen 0
      have q1 := HS.out.kb.cell 1
      have p1 := HS.out.kb.frozen 1
      have q2 := HS.out.kb.cell 2
      have p2 := HS.out.kb.frozen 2
      have q3 := HS.out.kb.cell 3
      have p3 := HS.out.kb.frozen 3
      have q4 := HS.out.kb.cell 4
      have p4 := HS.out.kb.frozen 4
      have lk := HS.out.kb.lt
      go_upto_region 24 with fail
      generalize hw6 : World.alloc _ _ = w6
      have e6 : ((wk.alloc (.cells #[.int .i64 k.sort, .int .i64 k.num, .string k.text, .slice B1 k.names.length d1, .slice B2 k.kids.length d2] 26)).setCell ⟨w.heap.size + 3, 0, none⟩ (.int .i64 6)).setCell ⟨w.heap.size + 3, 4, none⟩ (.slice (some ⟨wk.heap.size, 0, none⟩) 1 1) = w6 := by
        rw [World.setCell_alloc_past _ _ _ _ lk, World.setCell_alloc_past _ _ _ _ (by simpa [World.setCell] using lk)]
        exact hw6
      have hgp : (wk.alloc (.cells #[.int .i64 k.sort, .int .i64 k.num, .string k.text, .slice B1 k.names.length d1, .slice B2 k.kids.length d2] 26)).grownBy w6 (some (w.heap.size + 3)) := by
        rw [← e6]
        exact only_setCell (p := ⟨w.heap.size + 3, 4, none⟩) (only_setCell (p := ⟨w.heap.size + 3, 0, none⟩) (grown_refl _ _) (.inl rfl) _) (.inl rfl) _
      have hA := (Below.refl wk.heap.size wk).alloc (Nat.le_refl _) (.cells #[.int .i64 k.sort, .int .i64 k.num, .string k.text, .slice B1 k.names.length d1, .slice B2 k.kids.length d2] 26)
      have hsA : (wk.alloc (.cells #[.int .i64 k.sort, .int .i64 k.num, .string k.text, .slice B1 k.names.length d1, .slice B2 k.kids.length d2] 26)).heap.size = wk.heap.size + 1 := World.size_alloc _ _
      have hnb : w.heap.size + 3 ∉ fq := HN5.out.out (by omega)
      have HR6 := hide (show Row w6 wk.heap.size 26 [.int .i64 k.sort, .int .i64 k.num, .string k.text, .slice B1 k.names.length d1, .slice B2 k.kids.length d2] from (Row.new wk _ _).grown hgp (fun e => by injection e with e; omega))
      have HO6 := hide ((HO5.out.alloc HN5.out.lt (.cells #[.int .i64 k.sort, .int .i64 k.num, .string k.text, .slice B1 k.names.length d1, .slice B2 k.kids.length d2] 26)).grown hgp (HN5.out.alloc (.cells #[.int .i64 k.sort, .int .i64 k.num, .string k.text, .slice B1 k.names.length d1, .slice B2 k.kids.length d2] 26)).lt hnb)
      have HN6 := hide ((HN5.out.alloc (.cells #[.int .i64 k.sort, .int .i64 k.num, .string k.text, .slice B1 k.names.length d1, .slice B2 k.kids.length d2] 26)).grown hgp (fun b e => by injection e with e; subst e; exact hnb))
      have HX6 := hide (show wk.heap.size ∉ fq ∧ w.heap.size + 3 ≤ wk.heap.size from ⟨fun hm => Nat.lt_irrefl _ (HN5.out.lt _ hm), Nat.le_of_lt lk⟩)
      replace HS := hide (show ST w w6 g lv [.int .i64 6, .int .i64 0, .string .empty, .slice none 0 0, .slice (some ⟨wk.heap.size, 0, none⟩) 1 1] lk5 b5 from HS.out.put hgw ((hA.mono (Nat.le_of_lt lk)).trans (below_of_grown hgp (Nat.le_refl _) (by omega))) (by rw [← e6]; exact ((HS.out.kb.alloc _).set 0 _).set 4 _))
      clear hw6 e6 hgp hA hsA hnb HO5 HN5 q0 p0 q1 p1 q2 p2 q3 p3 q4 p4 lk
      have r0 := HS.out.rb.cell 0
      have rl := HS.out.rb.lt
      have l0 := HS.out.lb.cell 0
      have ll := HS.out.lb.lt
      obtain ⟨hbc, hbf⟩ := HS.out.rd.cells
      have lg := HS.out.rd.lt
      have q0 := HS.out.kb.cell 0
      have p0 := HS.out.kb.frozen 0
      have q1 := HS.out.kb.cell 1
      have p1 := HS.out.kb.frozen 1
      have q2 := HS.out.kb.cell 2
      have p2 := HS.out.kb.frozen 2
      have q3 := HS.out.kb.cell 3
      have p3 := HS.out.kb.frozen 3
      have q4 := HS.out.kb.cell 4
      have p4 := HS.out.kb.frozen 4
      have z0 := HS.out.zb.cell 0
      have y0 := HS.out.zb.frozen 0
      have z1 := HS.out.zb.cell 1
      have y1 := HS.out.zb.frozen 1
      have z2 := HS.out.zb.cell 2
      have y2 := HS.out.zb.frozen 2
      have z3 := HS.out.zb.cell 3
      have y3 := HS.out.zb.frozen 3
      have z4 := HS.out.zb.cell 4
      have y4 := HS.out.zb.frozen 4
      have lk := HS.out.kb.lt
      have lz := HS.out.zb.lt
      go_wp2
      refine bodyPost_ret (ret_row rfl _ _ (w.heap.size + 2) 26 [.int .i64 6, .int .i64 0, .string .empty, .slice none 0 0, .slice (some ⟨wk.heap.size, 0, none⟩) 1 1] (HS.out.zb.setAll [.int .i64 6, .int .i64 0, .string .empty, .slice none 0 0, .slice (some ⟨wk.heap.size, 0, none⟩) 1 1] rfl) _ rfl Tryz.underlying26 rfl (by kernel_rfl)) rfl ?_
      exact HEND.out _ (.mk 6 0 .empty [] [k]) _ (wk.heap.size :: fq) lk5 b5 HS.out.zb.lt (tone_ow (by decide) HO6.out wk.heap.size HR6.out) ((HN6.out.mono (by omega)).consHiR HX6.out.1 HX6.out.2 (Unf.row HR6.out) HR6.out.lt) HS.out.rd HS.out.gr (by rw [Tree.bulk_one]; exact Paid.more (by decide) HE4.out HP5.out (fun _ => rfl) hd6) (TakesT.maybe HE4.out (eaten_head HE4.out) HT5.out) (fun _ => by first | rfl | trivial)
    obtain ⟨e4, hno4⟩ := HE4.out.no
    replace e4 := e4.symm
    subst e4
    have HNO4 := hide (show ∀ r, l ≠ [63] ++ r from hno4)
    clear hno4 HE4
    have r0 := HS.out.rb.cell 0
    have rl := HS.out.rb.lt
    have HSK := hide (skip_any HS.out.rd ⟨#[34]⟩)
    go_wp2_with fail
    refine HSK.out.mono ?_
    rintro e w7 ⟨ok, l5, rfl, hr, he, hg⟩
    have HE5 := hide (show Eaten [34] l ok l5 from he)
    replace HS := hide (HS.out.read hgw hg hr)
    clear r0 rl HSK hr he hg
    rcases ok with _ | _
    rotate_left
    · skip
      have r0 := HS.out.rb.cell 0
      have rl := HS.out.rb.lt
      have HUN := hide (until_any HS.out.rd 34 (by decide))
      go_wp2_with fail
      refine HUN.out.mono ?_
      rintro e wu ⟨x, lu, rfl, hxs, hru, hun, hgu⟩
      have HUT := hide hun
      have HXS := hide (show x.size ≤ maxLen from by unfold maxLen; omega)
      replace HS := hide (HS.out.read hgw hgu hru)
      clear r0 rl HUN hxs hru hun hgu
      have q0 := HS.out.kb.cell 0
      have p0 := HS.out.kb.frozen 0
      have q1 := HS.out.kb.cell 1
      have p1 := HS.out.kb.frozen 1
      have q2 := HS.out.kb.cell 2
      have p2 := HS.out.kb.frozen 2
      have q3 := HS.out.kb.cell 3
      have p3 := HS.out.kb.frozen 3
      have q4 := HS.out.kb.cell 4
      have p4 := HS.out.kb.frozen 4
      have lk := HS.out.kb.lt
      replace HS := hide (HS.out.set hgw 0 (.int .i64 2))
      replace HS := hide (HS.out.set hgw 2 (.string x))
      go_upto_region 19 with fail
      clear q0 p0 q1 p1 q2 p2 q3 p3 q4 p4 lk
      generalize hw6 : World.setCell _ _ _ = w6
      rw [hw6] at HS
      clear hw6
      have hbr : w6.grownBy w6.drew (some g) := grown_drewN w6 g 1
      have r0 := HS.out.rb.cell 0
      have rl := HS.out.rb.lt
      obtain ⟨hbc, hbf⟩ := HS.out.rd.cells
      have lg := HS.out.rd.lt
      have HSK := hide (skip_any (HS.out.rd.drewN 1) ⟨#[34]⟩)
      go_region_with (go_simp; go_at_call 98; have hh : Calls Tryz.prog 98 _ w6.drew _ := HSK.out; refine hh.mono ?_; clear hh; rintro e w7 ⟨ok2, l7, rfl, hr7, he7, hg7⟩; have HE7 := hide (show Eaten [34] lu ok2 l7 from he7); have HS7 := hide (HS.out.read hgw (only_trans hbr hg7) hr7); have r7 := HS7.out.rb.cell 0; have rl7 := HS7.out.rb.lt; obtain ⟨hbc7, hbf7⟩ := HS7.out.rd.cells; have lg7 := HS7.out.rd.lt; clear hr7 he7 hg7)
      all_goals
        clear r7 rl7 hbc7 hbf7 lg7 r0 rl hbc hbf lg HSK
        have hgs : w7.grownBy (w7.setCell ⟨g, 1, none⟩ (.bool (!ok2))) (some g) := grownBy_setCell w7 ⟨g, 1, none⟩ _
        have r0 := HS7.out.rb.cell 0
        have rl := HS7.out.rb.lt
        have l0 := HS7.out.lb.cell 0
        have ll := HS7.out.lb.lt
        obtain ⟨hbc, hbf⟩ := HS7.out.rd.cells
        have lg := HS7.out.rd.lt
        have q0 := HS7.out.kb.cell 0
        have p0 := HS7.out.kb.frozen 0
        have q1 := HS7.out.kb.cell 1
        have p1 := HS7.out.kb.frozen 1
        have q2 := HS7.out.kb.cell 2
        have p2 := HS7.out.kb.frozen 2
        have q3 := HS7.out.kb.cell 3
        have p3 := HS7.out.kb.frozen 3
        have q4 := HS7.out.kb.cell 4
        have p4 := HS7.out.kb.frozen 4
        have z0 := HS7.out.zb.cell 0
        have y0 := HS7.out.zb.frozen 0
        have z1 := HS7.out.zb.cell 1
        have y1 := HS7.out.zb.frozen 1
        have z2 := HS7.out.zb.cell 2
        have y2 := HS7.out.zb.frozen 2
        have z3 := HS7.out.zb.cell 3
        have y3 := HS7.out.zb.frozen 3
        have z4 := HS7.out.zb.cell 4
        have y4 := HS7.out.zb.frozen 4
        have lk := HS7.out.kb.lt
        have lz := HS7.out.zb.lt
        go_wp2
        replace HS := hide (HS7.out.read hgw hgs (HS7.out.rd.setFail (!ok2)))
        refine bodyPost_ret (ret_row rfl _ _ (w.heap.size + 2) 26 [.int .i64 2, .int .i64 0, .string x, .slice none 0 0, .slice none 0 0] (HS.out.zb.setAll [.int .i64 2, .int .i64 0, .string x, .slice none 0 0, .slice none 0 0] rfl) _ rfl Tryz.underlying26 rfl (by kernel_rfl)) rfl ?_
        exact HEND.out _ (.mk 2 0 x [] []) _ [] l7 (!ok2) HS.out.zb.lt (tleaf_ow (s := 2) (n := 0) (x := x) _ (by decide) (by decide) HXS.out) (New.nil _ _) HS.out.rd HS.out.gr (textPaidJ HE5.out HUT.out HE7.out) (TakesT.text (textTakenJ HE5.out HUT.out HE7.out) (eaten_head HE5.out)) (fun _ => by first | rfl | trivial)
    obtain ⟨e5, hno5⟩ := HE5.out.no
    replace e5 := e5.symm
    subst e5
    have HNO5 := hide (show ∀ r, l ≠ [34] ++ r from hno5)
    clear hno5 HE5
    have r0 := HS.out.rb.cell 0
    have rl := HS.out.rb.lt
    have HSK := hide (skip_any HS.out.rd ⟨#[121, 101, 115]⟩)
    go_wp2_with fail
    refine HSK.out.mono ?_
    rintro e w8 ⟨ok, l6, rfl, hr, he, hg⟩
    have HE6 := hide (show Eaten [121, 101, 115] l ok l6 from he)
    replace HS := hide (HS.out.read hgw hg hr)
    clear r0 rl HSK hr he hg
    rcases ok with _ | _
    rotate_left
    · skip
      have r0 := HS.out.rb.cell 0
      have rl := HS.out.rb.lt
      have l0 := HS.out.lb.cell 0
      have ll := HS.out.lb.lt
      obtain ⟨hbc, hbf⟩ := HS.out.rd.cells
      have lg := HS.out.rd.lt
      have q0 := HS.out.kb.cell 0
      have p0 := HS.out.kb.frozen 0
      have q1 := HS.out.kb.cell 1
      have p1 := HS.out.kb.frozen 1
      have q2 := HS.out.kb.cell 2
      have p2 := HS.out.kb.frozen 2
      have q3 := HS.out.kb.cell 3
      have p3 := HS.out.kb.frozen 3
      have q4 := HS.out.kb.cell 4
      have p4 := HS.out.kb.frozen 4
      have z0 := HS.out.zb.cell 0
      have y0 := HS.out.zb.frozen 0
      have z1 := HS.out.zb.cell 1
      have y1 := HS.out.zb.frozen 1
      have z2 := HS.out.zb.cell 2
      have y2 := HS.out.zb.frozen 2
      have z3 := HS.out.zb.cell 3
      have y3 := HS.out.zb.frozen 3
      have z4 := HS.out.zb.cell 4
      have y4 := HS.out.zb.frozen 4
      have lk := HS.out.kb.lt
      have lz := HS.out.zb.lt
      replace HS := hide (HS.out.set hgw 0 (.int .i64 3))
      replace HS := hide (HS.out.set hgw 1 (.int .i64 1))
      go_wp2
      refine bodyPost_ret (ret_row rfl _ _ (w.heap.size + 2) 26 [.int .i64 3, .int .i64 1, .string .empty, .slice none 0 0, .slice none 0 0] (HS.out.zb.setAll [.int .i64 3, .int .i64 1, .string .empty, .slice none 0 0, .slice none 0 0] rfl) _ rfl Tryz.underlying26 rfl (by kernel_rfl)) rfl ?_
      exact HEND.out _ (.mk 3 1 .empty [] []) _ [] l6 false HS.out.zb.lt (tleaf_ow (s := 3) (n := 1) (x := .empty) _ (by decide) (by decide) (by decide)) (New.nil _ _) HS.out.rd HS.out.gr (Paid.leaf (by decide) HE6.out _ rfl) (TakesT.yes HE6.out (eaten_head HE6.out)) (fun _ => by first | rfl | trivial)
    obtain ⟨e6, hno6⟩ := HE6.out.no
    replace e6 := e6.symm
    subst e6
    have HNO6 := hide (show ∀ r, l ≠ [121, 101, 115] ++ r from hno6)
    clear hno6 HE6
    have r0 := HS.out.rb.cell 0
    have rl := HS.out.rb.lt
    have HSK := hide (skip_any HS.out.rd ⟨#[110, 111]⟩)
    go_wp2_with fail
    refine HSK.out.mono ?_
    rintro e w9 ⟨ok, l7, rfl, hr, he, hg⟩
    have HE7 := hide (show Eaten [110, 111] l ok l7 from he)
    replace HS := hide (HS.out.read hgw hg hr)
    clear r0 rl HSK hr he hg
    rcases ok with _ | _
    rotate_left
    · skip
      have r0 := HS.out.rb.cell 0
      have rl := HS.out.rb.lt
      have l0 := HS.out.lb.cell 0
      have ll := HS.out.lb.lt
      obtain ⟨hbc, hbf⟩ := HS.out.rd.cells
      have lg := HS.out.rd.lt
      have q0 := HS.out.kb.cell 0
      have p0 := HS.out.kb.frozen 0
      have q1 := HS.out.kb.cell 1
      have p1 := HS.out.kb.frozen 1
      have q2 := HS.out.kb.cell 2
      have p2 := HS.out.kb.frozen 2
      have q3 := HS.out.kb.cell 3
      have p3 := HS.out.kb.frozen 3
      have q4 := HS.out.kb.cell 4
      have p4 := HS.out.kb.frozen 4
      have z0 := HS.out.zb.cell 0
      have y0 := HS.out.zb.frozen 0
      have z1 := HS.out.zb.cell 1
      have y1 := HS.out.zb.frozen 1
      have z2 := HS.out.zb.cell 2
      have y2 := HS.out.zb.frozen 2
      have z3 := HS.out.zb.cell 3
      have y3 := HS.out.zb.frozen 3
      have z4 := HS.out.zb.cell 4
      have y4 := HS.out.zb.frozen 4
      have lk := HS.out.kb.lt
      have lz := HS.out.zb.lt
      replace HS := hide (HS.out.set hgw 0 (.int .i64 3))
      go_wp2
      refine bodyPost_ret (ret_row rfl _ _ (w.heap.size + 2) 26 [.int .i64 3, .int .i64 0, .string .empty, .slice none 0 0, .slice none 0 0] (HS.out.zb.setAll [.int .i64 3, .int .i64 0, .string .empty, .slice none 0 0, .slice none 0 0] rfl) _ rfl Tryz.underlying26 rfl (by kernel_rfl)) rfl ?_
      exact HEND.out _ (.mk 3 0 .empty [] []) _ [] l7 false HS.out.zb.lt (tleaf_ow (s := 3) (n := 0) (x := .empty) _ (by decide) (by decide) (by decide)) (New.nil _ _) HS.out.rd HS.out.gr (Paid.leaf (by decide) HE7.out _ rfl) (TakesT.no HE7.out (eaten_head HE7.out)) (fun _ => by first | rfl | trivial)
    obtain ⟨e7, hno7⟩ := HE7.out.no
    replace e7 := e7.symm
    subst e7
    have HNO7 := hide (show ∀ r, l ≠ [110, 111] ++ r from hno7)
    clear hno7 HE7
    have r0 := HS.out.rb.cell 0
    have rl := HS.out.rb.lt
    have HUN := hide (until3_any HS.out.rd)
    go_wp2_with fail
    refine HUN.out.mono ?_
    rintro e wu ⟨x, lu, rfl, hxs, hru, hun, hgu⟩
    have HUT := hide hun
    have hxs2 : x.size ≤ 1048576 := by omega
    replace HS := hide (HS.out.read hgw hgu hru)
    clear r0 rl HUN hxs hru hun hgu
    have HRN := hide (readNum_any x wu hxs2 (HLY.out wu HS.out.gr))
    clear hxs2
    go_wp2_with fail
    refine HRN.out.mono ?_
    rintro e wn ⟨⟨nn, rfl, hnb, hnn⟩, hbn⟩
    have HNN := hide hnn
    have HNW := hide (show (Lit.int .i64 nn).wf = true from wfiR hnb.1 hnb.2)
    replace HS := hide (HS.out.below hgw hbn)
    clear HRN hnn hnb hbn
    obtain ⟨ok, hok⟩ : ∃ ok, (numOf x).isSome = ok := ⟨_, rfl⟩
    rw [hok]
    have HOK := hide hok
    clear hok
    go_upto_region 5 with fail
    have r0 := HS.out.rb.cell 0
    have rl := HS.out.rb.lt
    have l0 := HS.out.lb.cell 0
    have ll := HS.out.lb.lt
    obtain ⟨hbc, hbf⟩ := HS.out.rd.cells
    have lg := HS.out.rd.lt
    have q0 := HS.out.kb.cell 0
    have p0 := HS.out.kb.frozen 0
    have q1 := HS.out.kb.cell 1
    have p1 := HS.out.kb.frozen 1
    have q2 := HS.out.kb.cell 2
    have p2 := HS.out.kb.frozen 2
    have q3 := HS.out.kb.cell 3
    have p3 := HS.out.kb.frozen 3
    have q4 := HS.out.kb.cell 4
    have p4 := HS.out.kb.frozen 4
    have z0 := HS.out.zb.cell 0
    have y0 := HS.out.zb.frozen 0
    have z1 := HS.out.zb.cell 1
    have y1 := HS.out.zb.frozen 1
    have z2 := HS.out.zb.cell 2
    have y2 := HS.out.zb.frozen 2
    have z3 := HS.out.zb.cell 3
    have y3 := HS.out.zb.frozen 3
    have z4 := HS.out.zb.cell 4
    have y4 := HS.out.zb.frozen 4
    have lk := HS.out.kb.lt
    have lz := HS.out.zb.lt
    go_region
    clear r0 rl l0 ll hbc hbf lg q0 p0 q1 p1 q2 p2 q3 p3 q4 p4 z0 y0 z1 y1 z2 y2 z3 y3 z4 y4 lk lz
    replace HS := hide ((HS.out.set hgw 0 (.int .i64 1)).set hgw 1 (.int .i64 nn))
    replace HS := hide (HS.out.read hgw (grownBy_setCell _ ⟨g, 1, none⟩ _) (HS.out.rd.setFail (!ok)))
    replace HS := hide (HS.out.drew hgw)
    generalize hw9 : (((wn.setCell ⟨w.heap.size + 3, 0, none⟩ (.int .i64 1)).setCell ⟨w.heap.size + 3, 1, none⟩ (.int .i64 nn)).setCell ⟨g, 1, none⟩ (.bool (!ok))).drew = w9
    rw [hw9] at HS
    clear hw9
    have r0 := HS.out.rb.cell 0
    have rl := HS.out.rb.lt
    have l0 := HS.out.lb.cell 0
    have ll := HS.out.lb.lt
    obtain ⟨hbc, hbf⟩ := HS.out.rd.cells
    have lg := HS.out.rd.lt
    have q0 := HS.out.kb.cell 0
    have p0 := HS.out.kb.frozen 0
    have q1 := HS.out.kb.cell 1
    have p1 := HS.out.kb.frozen 1
    have q2 := HS.out.kb.cell 2
    have p2 := HS.out.kb.frozen 2
    have q3 := HS.out.kb.cell 3
    have p3 := HS.out.kb.frozen 3
    have q4 := HS.out.kb.cell 4
    have p4 := HS.out.kb.frozen 4
    have z0 := HS.out.zb.cell 0
    have y0 := HS.out.zb.frozen 0
    have z1 := HS.out.zb.cell 1
    have y1 := HS.out.zb.frozen 1
    have z2 := HS.out.zb.cell 2
    have y2 := HS.out.zb.frozen 2
    have z3 := HS.out.zb.cell 3
    have y3 := HS.out.zb.frozen 3
    have z4 := HS.out.zb.cell 4
    have y4 := HS.out.zb.frozen 4
    have lk := HS.out.kb.lt
    have lz := HS.out.zb.lt
    go_wp2
    refine bodyPost_ret (ret_row rfl _ _ (w.heap.size + 2) 26 [.int .i64 1, .int .i64 nn, .string .empty, .slice none 0 0, .slice none 0 0] (HS.out.zb.setAll [.int .i64 1, .int .i64 nn, .string .empty, .slice none 0 0, .slice none 0 0] rfl) _ rfl Tryz.underlying26 rfl (by kernel_rfl)) rfl ?_
    exact HEND.out _ (.mk 1 nn .empty [] []) _ [] lu (!ok) HS.out.zb.lt (tleaf_ow (s := 1) (n := nn) (x := .empty) _ (by decide) HNW.out (by decide)) (New.nil _ _) HS.out.rd HS.out.gr (by rw [← HOK.out]; exact numPaid HUT.out) (numHeadJ HNO1.out HNO2.out HNO3.out HNO4.out HNO5.out HNO6.out HNO7.out (by rw [← HOK.out]; exact numTaken_of HUT.out HNN.out)) (fun _ => by first | rfl | trivial)
theorem treeRdI_any (hpart4 : ∀ (f' lv : Nat), lv + 1 + f' = 7 → 1 ≤ lv → TreeRdI f' → ∀ (w : World) (g : Nat), Lay w → 5 < g → g < w.heap.size → PartAll4 w g lv) (hpart5 : ∀ (f' lv : Nat), lv + 1 + f' = 7 → 1 ≤ lv → TreeRdI f' → ∀ (w : World) (g : Nat), Lay w → 5 < g → g < w.heap.size → PartAll5 w g lv) : ∀ f, TreeRdI f
  | 0 => treeRdI_of 0 (fun f' e => by cases e) hpart4 hpart5
  | f + 1 => treeRdI_of (f + 1) (fun f' e => by injection e with e; subst e; exact treeRdI_any hpart4 hpart5 f) hpart4 hpart5
end Go.Proofs.YtnaecdoeldoipaaGreatDoor
