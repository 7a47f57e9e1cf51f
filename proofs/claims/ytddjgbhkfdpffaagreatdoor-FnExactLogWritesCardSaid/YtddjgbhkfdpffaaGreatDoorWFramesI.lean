/-
  The reference's LogFrames. The program's LogFrames.
-/
import Derived.Deep.AppendLies
import Derived.Deep.RegionHeld3
import Derived.Test.YtddjgbhkfdpffaaGreatDoorWDDiskWrite
import Derived.Test.YtddjgbhkfdpffaaGreatDoorWOwn
import Derived.Test.YtddjgbhkfdpffaaGreatDoorWRDisk
import Derived.Test.YtddjgbhkfdpffaaGreatDoorWBig
set_option linter.unusedVariables false
set_option linter.unusedSimpArgs false
namespace Go.Proofs.YtddjgbhkfdpffaaGreatDoor
open Go.ChangeShapes Go.WideShapes Go.ChangeAt Go.RowKit

/-- What LogFrames hands back: a new list, and where it ends. -/
def FramesRet (d : ByteArray) (w : World) (e : Ending) (w' : World) : Prop :=
  ∃ v fp, e = .returned (.tuple #[v, .int .i64 ((frFrom d 0).2 : Nat)]) ∧ Ow w' (.s 2 (frFrom d 0).1.length ((frFrom d 0).1.flatMap LogRecord.cells)) v fp ∧ New w' fp w.heap.size ∧ Below w.heap.size w w'
theorem recInfo : (Tryz.prog.info? 63).map (fun i => (i.zero, i.size, i.bytes)) = some (some (.agg #[.int .i64 0, .string .empty]), 2, 24) := by kernel_rfl
theorem OwS.empty {α : Type} (w : World) (e : TypeId) (k : Nat) (f : α → List D) : OwS (w.alloc (.cells #[] e)) w.heap.size e k f (.slice (some ⟨w.heap.size, 0, none⟩) 0 0) [] [] [] :=
  ⟨⟨by simp, .inr ⟨_, 0, #[], rfl, Nat.le_refl _, heap_alloc_new w _, Nat.le_refl _, by decide, by simp, by simp⟩⟩, by simp [OwC], New.nil _ _, fun g _ => by simp⟩

theorem framesRet_of {d : ByteArray} {w wr w' : World} {j : Nat} {l : List LogRecord} {us : List Value} {v : Value} {e : Ending} (q : Nat) (h : frFrom d 0 = (l, j)) (how : OwS wr w.heap.size 63 2 LogRecord.cells v l us []) (hb : Below w.heap.size w wr)
    (he : e = .returned (.tuple #[v, .int .i64 j])) (hw : w' = wr.drewN q) : FramesRet d w e w' := by
  subst he hw
  obtain ⟨fp, o, n⟩ := (how.drewN q).toOw
  refine ⟨v, fp, by rw [h], by rw [h]; exact o, n, below_drewN hb q⟩
theorem wrap_same (x : Int) (h1 : -9223372036854775808 ≤ x) (h2 : x ≤ 9223372036854775807) : IntKind.i64.wrap x = x := by
  rw [IntKind.wrap_i64]
  omega

set_option maxRecDepth 100000 in
set_option maxHeartbeats 2000000 in
theorem specLogFrames_any (d : ByteArray) (w : World) (hs : d.size ≤ 1048576) :
    Calls Tryz.prog 35 #[.string d] w (FramesRet d w) := by
  obtain ⟨i0, hi, hz0, hz1, hz2⟩ := info_parts recInfo
  have HOW0 := hide (OwS.empty w 63 2 LogRecord.cells)
  have hw1 : Below w.heap.size w (w.alloc (.cells #[] 63)) := (Below.refl _ _).alloc (Nat.le_refl _) _
  go_enter Tryz.func35, Tryz.ntmps35
  go_wp2
  go_loopw [4, 5] (fun v i wr => ∃ (j : Nat) (l : List LogRecord) (us : List Value), i = .int .i64 j ∧ FrTo d j l ∧ OwS wr w.heap.size 63 2 LogRecord.cells v l us [] ∧ Below w.heap.size w wr) (fun _ i _ => d.size - (intOf i).toNat)
  case atStart => exact ⟨0, [], [], rfl, FrTo.zero d, HOW0.out, hw1⟩
  case round =>
    obtain ⟨j, l, us, rfl, hft, how, hbw⟩ := hrel
    have HFT := hide hft
    have HOW := hide how
    have HB := hide hbw
    have hjd := hft.1
    have hlj := hft.2.1
    clear hft how hbw HOW0 hw1
    by_cases h5 : j + 5 ≤ d.size
    · have a0 : j < d.size := by omega
      obtain ⟨k1, e1⟩ : ∃ k : Nat, k = j + 1 := ⟨_, rfl⟩
      have x1 : IntKind.i64.wrap ((j : Int) + 1) = (k1 : Int) := by rw [wrap_same _ (by omega) (by omega)]; omega
      have a1 : k1 < d.size := by omega
      obtain ⟨k2, e2⟩ : ∃ k : Nat, k = j + 2 := ⟨_, rfl⟩
      have x2 : IntKind.i64.wrap ((j : Int) + 2) = (k2 : Int) := by rw [wrap_same _ (by omega) (by omega)]; omega
      have a2 : k2 < d.size := by omega
      obtain ⟨k3, e3⟩ : ∃ k : Nat, k = j + 3 := ⟨_, rfl⟩
      have x3 : IntKind.i64.wrap ((j : Int) + 3) = (k3 : Int) := by rw [wrap_same _ (by omega) (by omega)]; omega
      have a3 : k3 < d.size := by omega
      obtain ⟨k4, e4⟩ : ∃ k : Nat, k = j + 4 := ⟨_, rfl⟩
      have x4 : IntKind.i64.wrap ((j : Int) + 4) = (k4 : Int) := by rw [wrap_same _ (by omega) (by omega)]; omega
      have a4 : k4 < d.size := by omega
      have hN := hide (show frN d j = d[j].toNat * 256 + d[k1].toNat by unfold frN; rw [← e1, bAt_eq a0, bAt_eq a1])
      have hP := hide (show frP d j = d[k2].toNat * 65536 + d[k3].toNat * 256 + d[k4].toNat by unfold frP; rw [← e2, ← e3, ← e4, bAt_eq a2, bAt_eq a3, bAt_eq a4])
      have E := hide (And.intro e1 (And.intro e2 (And.intro e3 e4)))
      clear e1 e2 e3 e4
      have b0 := UInt8.toNat_lt d[j]
      have u0 : IntKind.i64.wrap (d[j].toNat : Int) = (d[j].toNat : Int) := wrap_same _ (by omega) (by omega)
      have b1 := UInt8.toNat_lt d[k1]
      have u1 : IntKind.i64.wrap (d[k1].toNat : Int) = (d[k1].toNat : Int) := wrap_same _ (by omega) (by omega)
      have b2 := UInt8.toNat_lt d[k2]
      have u2 : IntKind.i64.wrap (d[k2].toNat : Int) = (d[k2].toNat : Int) := wrap_same _ (by omega) (by omega)
      have b3 := UInt8.toNat_lt d[k3]
      have u3 : IntKind.i64.wrap (d[k3].toNat : Int) = (d[k3].toNat : Int) := wrap_same _ (by omega) (by omega)
      have b4 := UInt8.toNat_lt d[k4]
      have u4 : IntKind.i64.wrap (d[k4].toNat : Int) = (d[k4].toNat : Int) := wrap_same _ (by omega) (by omega)
      have m0 : IntKind.i64.wrap ((d[j].toNat : Int) * 256) = (d[j].toNat : Int) * 256 := wrap_same _ (by omega) (by omega)
      have s1 : IntKind.i64.wrap ((d[j].toNat : Int) * 256 + (d[k1].toNat : Int)) = (frN d j : Nat) := by rw [wrap_same _ (by omega) (by omega)]; have := hN.out; omega
      have m2 : IntKind.i64.wrap ((d[k2].toNat : Int) * 65536) = (d[k2].toNat : Int) * 65536 := wrap_same _ (by omega) (by omega)
      have m3 : IntKind.i64.wrap ((d[k3].toNat : Int) * 256) = (d[k3].toNat : Int) * 256 := wrap_same _ (by omega) (by omega)
      have s2 : IntKind.i64.wrap ((d[k2].toNat : Int) * 65536 + (d[k3].toNat : Int) * 256) = (d[k2].toNat : Int) * 65536 + (d[k3].toNat : Int) * 256 := wrap_same _ (by omega) (by omega)
      have s3 : IntKind.i64.wrap ((d[k2].toNat : Int) * 65536 + (d[k3].toNat : Int) * 256 + (d[k4].toNat : Int)) = (frP d j : Nat) := by rw [wrap_same _ (by omega) (by omega)]; have := hP.out; omega
      have hNb : frN d j < 65536 := by have := hN.out; omega
      have hPb : frP d j < 16777216 := by have := hP.out; omega
      clear b0 b1 b2 b3 b4
      go_wp2
      go_quiet (fail)
      go_wp2
      go_quiet (fail)
      by_cases hn : frN d j ≤ 2000
      · go_wp2_with fail
        refine (l6In_any _ _ _ _).mono ?_
        rintro e w' ⟨rfl, rfl⟩
        by_cases hp : 1 ≤ (frP d j : Int) ∧ (frP d j : Int) ≤ 999999
        · rw [tb_true hp]
          have HP2 := hide hp
          clear hp
          by_cases hz : j + 5 + frN d j ≤ d.size
          · have hok := hide (show frOk d j from ⟨h5, hn, by have := HP2.out; omega, by have := HP2.out; omega, hz⟩)
            have hbs := HB.out.size
            have hxs : (d.extract (j + 5) (j + 5 + frN d j)).size ≤ maxLen := by unfold maxLen; simp only [ByteArray.size_extract]; omega
            go_wp2_with (at_builtin; refine wpList_append_own_at _ rfl _ _ 31 rfl w.heap.size 63 i0 (.agg #[.int .i64 0, .string .empty]) 2 24 Tryz.underlying31 hi hz0 hz1 hz2 rfl (by decide) _ _ _ rfl ((HOW.out.drewN _).alloc _).own ⟨wr.heap.size, 0, none⟩ 1 1 [.int .i64 (frP d j : Nat), .string (d.extract (j + 5) (j + 5 + frN d j))] rfl rfl ?c1 ?c2 ?c3 ?c4 ?c5 ?_)
            case c1 => exact World.news_of_block (heap_alloc_new _ _)
            case c2 => intro u hu; simp at hu; rcases hu with rfl | rfl <;> rfl
            case c3 => unfold maxLen; omega
            case c4 => omega
            case c5 => simp; omega
            intro v' w' hown' hgrow hnil hat
            have HP := hide (((HOW.out.drewN _).alloc _).push (frRec d j) (OwC.mLogRecord (x := frRec d j) (WalkArith.wf_i64 (by show (_ : Int) ≤ ((frP d j : Nat) : Int) ∧ ((frP d j : Nat) : Int) ≤ _; omega)) hxs) (by simpa using New.nil _ _) (fun g _ => by simp) hown' hgrow (by simpa using hat))
            have hfrom := hide (ownsRow_from HOW.out.own)
            have hb3 := hide ((GB.step (v1 := v') hgrow (by simpa using hat)).toBelow (B := w.heap.size) (by simp; omega) hfrom.out)
            have HB3 := hide ((HB.out.trans (⟨rfl, rfl, rfl, Nat.le_refl _, fun _ _ => rfl⟩ : Below w.heap.size wr (wr.drewN _))).trans ((Below.alloc (Below.refl _ _) (by simpa using hbs) _).trans hb3.out))
            have HF := hide (HFT.out.step hok.out)
            clear hgrow hown' hat
            go_wp2
            go_roundw
            case rel => exact ⟨j + 5 + frN d j, _, _, by go_num, HF.out, HP.out, HB3.out⟩
            case measure => simp [intOf]; omega
          · have HD := hide (HFT.out.done (fun h => hz h.2.2.2.2))
            skip
            go_wp2
            go_ret2
            exact framesRet_of _ HD.out HOW.out HB.out rfl rfl
        · rw [tb_false hp]
          have HD := hide (HFT.out.done (fun h => hp ⟨by have := h.2.2.1; omega, by have := h.2.2.2.1; omega⟩))
          clear hp
          go_wp2
          go_ret2
          exact framesRet_of _ HD.out HOW.out HB.out rfl rfl
      · have HD := hide (HFT.out.done (fun h => hn h.2.1))
        skip
        go_wp2
        go_ret2
        exact framesRet_of _ HD.out HOW.out HB.out rfl rfl
    · have ho : ¬ frOk d j := fun h => h5 h.1
      have HD := hide (HFT.out.done ho)
      go_wp2
      go_ret2
      exact framesRet_of 0 HD.out HOW.out HB.out rfl rfl
end Go.Proofs.YtddjgbhkfdpffaaGreatDoor
set_option linter.unusedVariables false
set_option linter.unusedSimpArgs false
namespace Go.Proofs.YtddjgbhkfdpffaaGreatDoor
open Go.ChangeShapes Go.WideShapes Go.ChangeAt Go.RowKit

theorem bAt_extract (d : ByteArray) (a b i : Nat) (h : a + i < b) (hb : b ≤ d.size) : bAt (d.extract a b) i = bAt d (a + i) := by
  have h1 : i < (d.extract a b).size := by simp only [ByteArray.size_extract]; omega
  rw [bAt_eq h1, bAt_eq (by omega : a + i < d.size), ByteArray.getElem_extract]
theorem big2 {d : ByteArray} {j : Nat} (h : j + 2 ≤ d.size) : bigTo (d.extract j (j + 2)) (d.extract j (j + 2)).size = frN d j := by
  have e : (d.extract j (j + 2)).size = 2 := by simp only [ByteArray.size_extract]; omega
  rw [e]
  simp only [bigTo]
  rw [bAt_extract d j (j + 2) 0 (by omega) h, bAt_extract d j (j + 2) 1 (by omega) h]
  unfold frN
  simp
theorem big3 {d : ByteArray} {j : Nat} (h : j + 5 ≤ d.size) : bigTo (d.extract (j + 2) (j + 5)) (d.extract (j + 2) (j + 5)).size = frP d j := by
  have e : (d.extract (j + 2) (j + 5)).size = 3 := by simp only [ByteArray.size_extract]; omega
  rw [e]
  simp only [bigTo]
  rw [bAt_extract d (j + 2) (j + 5) 0 (by omega) h, bAt_extract d (j + 2) (j + 5) 1 (by omega) h, bAt_extract d (j + 2) (j + 5) 2 (by omega) h]
  unfold frP
  simp only [Nat.add_zero, Nat.add_assoc, Nat.zero_mul, Nat.zero_add, Nat.reduceAdd]
  omega

set_option maxRecDepth 100000 in
set_option maxHeartbeats 2000000 in
theorem implLogFrames_any (d : ByteArray) (w : World) (hs : d.size ≤ 1048576) :
    Calls Tryz.prog 94 #[.string d] w (FramesRet d w) := by
  obtain ⟨i0, hi, hz0, hz1, hz2⟩ := info_parts recInfo
  have HOW0 := hide (OwS.empty w 63 2 LogRecord.cells)
  have hw1 : Below w.heap.size w (w.alloc (.cells #[] 63)) := (Below.refl _ _).alloc (Nat.le_refl _) _
  go_enter Tryz.func94, Tryz.ntmps94
  go_wp2
  go_loopw [4, 5] (fun v i wr => ∃ (j : Nat) (l : List LogRecord) (us : List Value), i = .int .i64 j ∧ FrTo d j l ∧ OwS wr w.heap.size 63 2 LogRecord.cells v l us [] ∧ Below w.heap.size w wr) (fun _ i _ => d.size - (intOf i).toNat)
  case atStart => exact ⟨0, [], [], rfl, FrTo.zero d, HOW0.out, hw1⟩
  case round =>
    obtain ⟨j, l, us, rfl, hft, how, hbw⟩ := hrel
    have HFT := hide hft
    have HOW := hide how
    have HB := hide hbw
    have hjd := hft.1
    have hlj := hft.2.1
    clear hft how hbw HOW0 hw1
    by_cases h5 : j + 5 ≤ d.size
    · have hb2 := hide (big2 (d := d) (j := j) (by omega))
      have hb3 := hide (big3 (d := d) (j := j) h5)
      have hs2 : (d.extract j (j + 2)).size ≤ 3 := by simp only [ByteArray.size_extract]; omega
      have hs3 : (d.extract (j + 2) (j + 5)).size ≤ 3 := by simp only [ByteArray.size_extract]; omega
      have hNb : frN d j < 65536 := by unfold frN; have := bAt_lt d j; have := bAt_lt d (j + 1); omega
      have hPb : frP d j < 16777216 := by unfold frP; have := bAt_lt d (j + 2); have := bAt_lt d (j + 3); have := bAt_lt d (j + 4); omega
      go_wp2_with fail
      refine (big_any _ _ hs2).mono ?_
      rintro e w' ⟨rfl, rfl⟩
      rw [hb2.out]
      by_cases hz : j + 5 + frN d j ≤ d.size
      · obtain ⟨k2, e2⟩ : ∃ k : Nat, k = j + 2 := ⟨_, rfl⟩
        obtain ⟨k5, e5⟩ : ∃ k : Nat, k = j + 5 := ⟨_, rfl⟩
        obtain ⟨ke, ee⟩ : ∃ k : Nat, k = j + 5 + frN d j := ⟨_, rfl⟩
        have x2 : IntKind.i64.wrap ((j : Int) + 2) = (k2 : Int) := by rw [wrap_same _ (by omega) (by omega)]; omega
        have x5 : IntKind.i64.wrap ((j : Int) + 5) = (k5 : Int) := by rw [wrap_same _ (by omega) (by omega)]; omega
        have xe : (j : Int) + 5 + (frN d j : Nat) = (ke : Int) := by omega
        have l1 : k2 ≤ k5 := by omega
        have l2 : k5 ≤ ke := by omega
        have l3 : ke ≤ d.size := by omega
        have l4 : k5 ≤ d.size := by omega
        have bz : decide ((d.size : Int) < (ke : Int)) = false := by simp; omega
        have hs3' : (d.extract k2 k5).size ≤ 3 := by rw [e2, e5]; exact hs3
        have hb3' : bigTo (d.extract k2 k5) (k5 - k2) = frP d j := by
          have h := hb3.out
          rw [← e2, ← e5] at h
          rw [← h]
          congr 1
          simp only [ByteArray.size_extract]; omega
        have hxz : (d.extract k5 ke).size = frN d j := by simp only [ByteArray.size_extract]; omega
        have hrec := hide (show frRec d j = ⟨frP d j, d.extract k5 ke⟩ by unfold frRec; rw [← e5]; rw [show k5 + frN d j = ke by omega])
        have HXZ := hide hxz
        have hxs : (d.extract k5 ke).size ≤ maxLen := by unfold maxLen; omega
        have HFS := hide (fun (h : frOk d j) => show FrTo d ke (l ++ [frRec d j]) from by rw [show ke = j + 5 + frN d j by omega]; exact HFT.out.step h)
        clear hxz
        have E := hide (And.intro e2 (And.intro e5 ee))
        clear e2 e5 ee hz
        go_wp2
        go_region_held3 (fun w' => w'.os = w.os) (first | exact HB.out.os) (first | (go_at_call 131; refine (big_any _ _ hs3').mono ?_; rintro e w' ⟨rfl, rfl⟩))
        all_goals
          go_wp2_with fail
          refine (implFrameOk_any _ _ _ hxs).mono ?_
          rintro e w3 ⟨rfl, hb3⟩
          have hX : Below wr.heap.size wr w3 := by
            first
              | exact (((Below.refl wr.heap.size wr).alloc (Nat.le_refl _) (.cells #[.int .i64 (frP d j : Nat), .string (d.extract k5 ke)] 63)).drew).trans (hb3.mono (by simp [World.drew]))
              | exact (((Below.refl wr.heap.size wr).drew).alloc (Nat.le_refl _) (.cells #[.int .i64 (frP d j : Nat), .string (d.extract k5 ke)] 63)).trans (hb3.mono (by simp [World.drew]))
          have RX : Row w3 wr.heap.size 63 [.int .i64 (frP d j : Nat), .string (d.extract k5 ke)] := by
            first
              | exact ((Row.new wr 63 [.int .i64 (frP d j : Nat), .string (d.extract k5 ke)]).drewN 1).below hb3 (by simp [World.drew, World.drewN])
              | exact (Row.new (wr.drewN 1) 63 [.int .i64 (frP d j : Nat), .string (d.extract k5 ke)]).below hb3 (by simp [World.drew, World.drewN])
          have HX := hide (HB.out.trans (hX.mono HB.out.size))
          have HOX := hide (HOW.out.below (C := 0) hX)
          have c0 := RX.cell 0
          have c1 := RX.cell 1
          have lx := RX.lt
          clear hb3 hX
          by_cases hok : (LogRecord.mk (frP d j : Nat) (d.extract k5 ke)).ok
          · rw [tb_true hok]
            have hfo := hide (show frOk d j from by
              have h1 := hok.1
              have h2 := hok.2.1
              have h3 := hok.2.2
              have h4 := HXZ.out
              have h5 := E.out
              dsimp only at h1 h2 h3
              exact ⟨by omega, by omega, by omega, by omega, by omega⟩)
            have hbs := HX.out.size
            have hbs0 := HB.out.size
            clear hok
            go_wp2_with (at_builtin; refine wpList_append_own_at _ rfl _ _ 31 rfl w.heap.size 63 i0 (.agg #[.int .i64 0, .string .empty]) 2 24 Tryz.underlying31 hi hz0 hz1 hz2 rfl (by decide) _ _ _ rfl (HOX.out.alloc _).own ⟨w3.heap.size, 0, none⟩ 1 1 [.int .i64 (frP d j : Nat), .string (d.extract k5 ke)] rfl rfl ?c1 ?c2 ?c3 ?c4 ?c5 ?_)
            case c1 => exact World.news_of_block (heap_alloc_new _ _)
            case c2 => intro u hu; simp at hu; rcases hu with rfl | rfl <;> rfl
            case c3 => unfold maxLen; omega
            case c4 => omega
            case c5 => simp; omega
            intro v' w' hown' hgrow hnil hat
            have HP := hide ((HOX.out.alloc _).push (⟨(frP d j : Nat), d.extract k5 ke⟩ : LogRecord) (OwC.mLogRecord (x := ⟨(frP d j : Nat), d.extract k5 ke⟩) (WalkArith.wf_i64 (by show (_ : Int) ≤ ((frP d j : Nat) : Int) ∧ ((frP d j : Nat) : Int) ≤ _; omega)) hxs) (by simpa using New.nil _ _) (fun g _ => by simp) hown' hgrow (by simpa using hat))
            have hfrom := hide (ownsRow_from HOX.out.own)
            have hb4 := hide ((GB.step (v1 := v') hgrow (by simpa using hat)).toBelow (B := w.heap.size) (by simp; omega) hfrom.out)
            have HB4 := hide (HX.out.trans ((Below.alloc (Below.refl _ _) (by simpa using hbs) _).trans hb4.out))
            have HF := hide (hrec.out ▸ HFS.out hfo.out)
            clear hgrow hown' hat c0 c1 lx RX
            go_wp2
            go_roundw
            case rel => exact ⟨ke, _, _, by go_num, HF.out, HP.out, HB4.out⟩
            case measure => simp [intOf]; omega
          · rw [tb_false hok]
            have HD := hide (HFT.out.done (fun h => hok ⟨by show (1 : Int) ≤ ((frP d j : Nat) : Int); have := h.2.2.1; omega, by show ((frP d j : Nat) : Int) ≤ 999999; have := h.2.2.2.1; omega, by show (d.extract k5 ke).size ≤ 2000; have := h.2.1; have := HXZ.out; omega⟩))
            clear hok
            go_wp2
            go_ret2
            exact framesRet_of 0 HD.out HOX.out HX.out rfl rfl
      · have HD := hide (HFT.out.done (fun h => hz h.2.2.2.2))
        go_wp2
        go_ret2
        exact framesRet_of 0 HD.out HOW.out HB.out rfl rfl
    · have ho : ¬ frOk d j := fun h => h5 h.1
      have HD := hide (HFT.out.done ho)
      go_wp2
      go_ret2
      exact framesRet_of 0 HD.out HOW.out HB.out rfl rfl
end Go.Proofs.YtddjgbhkfdpffaaGreatDoor
