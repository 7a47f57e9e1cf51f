/-
  CrewPlay on both sides in the form that the law asks for; how much a play tells. FnExactCrewPlay returns true for every input: the program answers as the reference. No condition.
-/
import Derived.Deep.RegionHeld3
import Derived.Test.YtpkjjfnfolbcoaaQPlayS8
import Derived.Test.YtpkjjfnfolbcoaaQPlayI5
import Derived.Test.YtpkjjfnfolbcoaaQCrewCnt
import Derived.Test.YtpkjjfnfolbcoaaQHCrewJob
import Derived.Test.YtpkjjfnfolbcoaaQRCrewJob
set_option linter.unusedVariables false
set_option linter.unusedSimpArgs false
namespace Go.Proofs.Ytpkjjfnfolbcoaa
open Go.ChangeShapes Go.WideShapes Go.ChangeAt Go.RowKit

theorem specCrewPlay_any (l : List CrewJob) (A : Option Addr) (n c : Nat) (fp : List Nat) (n1 n2 : Int) (ps : List Int) (A3 : Option Addr) (n3 c3 : Nat) (fp3 : List Nat) (cn : Int) (w : World) (h : Ow w (.s 2 l.length (l.flatMap CrewJob.cells)) (.slice A n c) fp) (hf : Lt fp w.heap.size) (hbk : CrewJob.bulkL l ≤ 1048576) (hw1 : (Lit.int .i64 n1).wf = true) (hw2 : (Lit.int .i64 n2).wf = true) (h3 : Ow w (.s 1 ps.length (ps.flatMap intC)) (.slice A3 n3 c3) fp3) (hf3 : Lt fp3 w.heap.size) (hps : ps.length ≤ 1048576) (hwc : (Lit.int .i64 cn).wf = true) :
    Calls Try.prog 26 #[.slice A n c, .int .i64 n1, .int .i64 n2, .slice A3 n3 c3, .int .i64 cn] w fun e w' => ∃ us fq, e = .returned (.agg us.toArray) ∧ OwC w' (playOf l n1 n2 ps cn).cells us fq ∧ New w' fq w.heap.size ∧ Below w.heap.size w w' :=
  specCrewPlay_k l A n c fp n1 n2 ps A3 n3 c3 fp3 cn w h hf h3 hf3 hps hw1 hw2 hwc
theorem implCrewPlay_any (l : List CrewJob) (A : Option Addr) (n c : Nat) (fp : List Nat) (n1 n2 : Int) (ps : List Int) (A3 : Option Addr) (n3 c3 : Nat) (fp3 : List Nat) (cn : Int) (w : World) (h : Ow w (.s 2 l.length (l.flatMap CrewJob.cells)) (.slice A n c) fp) (hf : Lt fp w.heap.size) (hbk : CrewJob.bulkL l ≤ 1048576) (hw1 : (Lit.int .i64 n1).wf = true) (hw2 : (Lit.int .i64 n2).wf = true) (h3 : Ow w (.s 1 ps.length (ps.flatMap intC)) (.slice A3 n3 c3) fp3) (hf3 : Lt fp3 w.heap.size) (hps : ps.length ≤ 1048576) (hwc : (Lit.int .i64 cn).wf = true) :
    Calls Try.prog 29 #[.slice A n c, .int .i64 n1, .int .i64 n2, .slice A3 n3 c3, .int .i64 cn] w fun e w' => ∃ us fq, e = .returned (.agg us.toArray) ∧ OwC w' (playOf l n1 n2 ps cn).cells us fq ∧ New w' fq w.heap.size ∧ Below w.heap.size w w' :=
  implCrewPlay_k l A n c fp n1 n2 ps A3 n3 c3 fp3 cn w h hf h3 hf3 hps hw1 hw2 hwc
theorem playOf_cntTop (l : List CrewJob) (n1 n2 : Int) (ps : List Int) (cn : Int) : (playOf l n1 n2 ps cn).cntTop ≤ 2520 := by
  have h1 := (playOf l n1 n2 ps cn).cntTop_eq
  have h2 := CrewDead.cntS_len (playOf l n1 n2 ps cn).dead
  have h3 : (playOf l n1 n2 ps cn).items.length ≤ 2400 ∧ (playOf l n1 n2 ps cn).dead.length ≤ 60 := by
    unfold playOf
    by_cases hp : playFits l n1 n2 ps
    · rw [if_pos (tb_true hp)]
      obtain ⟨hc, hj, hps⟩ := hp
      unfold playTold
      generalize (runIn (crewAt (l.length : Int) n1 n2) ps cn (playN (crewAt (l.length : Int) n1 n2) ps cn)).got.length = m
      have h60 := hj.1
      by_cases hm : m ≤ l.length
      · have a := toldItems_len hj m hm
        have b := toldDead_len l m hm
        exact ⟨by show (toldItems (l.take m)).length ≤ 2400; omega, by show (toldDead (l.take m)).length ≤ 60; omega⟩
      · have e : l.take m = l.take l.length := by rw [List.take_length, List.take_of_length_le (by omega)]
        have a := toldItems_len hj l.length (Nat.le_refl _)
        have b := toldDead_len l l.length (Nat.le_refl _)
        exact ⟨by show (toldItems (l.take m)).length ≤ 2400; rw [e]; omega, by show (toldDead (l.take m)).length ≤ 60; rw [e]; omega⟩
    · rw [if_neg (by rw [tb_false hp]; simp)]
      exact ⟨Nat.zero_le _, Nat.zero_le _⟩
  omega
end Go.Proofs.Ytpkjjfnfolbcoaa
set_option linter.unusedVariables false
set_option linter.unusedSimpArgs false
namespace Go.Proofs.Ytpkjjfnfolbcoaa
open Go.ChangeShapes Go.WideShapes Go.ChangeAt Go.RowKit

theorem rowTouch {fp : List Nat} {w w2 : World} {g : Nat} {e : TypeId} {cs : List Value} (h : Row w g e cs) (ht : Touch fp w w2) (hn : g ∉ fp) : Row w2 g e cs := (ht.block _ h.lt hn).trans h

set_option maxRecDepth 100000 in
set_option maxHeartbeats 4000000 in
theorem lawFnExactCrewPlay_any (w : World) (x0 : List CrewJob) (A0 : Option Addr) (m0 c0 : Nat) (fp0 : List Nat) (ho0 : Ow w (.s 2 (x0).length ((x0).flatMap CrewJob.cells)) (.slice A0 m0 c0) fp0) (hl0 : Lt fp0 w.heap.size) (n1 : Int) (hn1 : (Lit.int .i64 n1).wf = true) (n2 : Int) (hn2 : (Lit.int .i64 n2).wf = true) (x3 : List Int) (A3 : Option Addr) (m3 c3 : Nat) (fp3 : List Nat) (ho3 : Ow w (.s 1 (x3).length ((x3).flatMap intC)) (.slice A3 m3 c3) fp3) (hl3 : Lt fp3 w.heap.size) (n4 : Int) (hn4 : (Lit.int .i64 n4).wf = true) :
    Calls Try.prog 7 #[.slice A0 m0 c0, .int .i64 n1, .int .i64 n2, .slice A3 m3 c3, .int .i64 n4] w fun e w' => e = .returned (.bool true) ∧ Below w.heap.size w w' := by
  have B0 := hide (Below.refl w.heap.size w)
  have HO0 := hide ho0
  obtain ⟨rfl, hc0, hm0⟩ := ho0.nlen
  clear ho0
  have HO3 := hide ho3
  obtain ⟨rfl, hc3, hm3⟩ := ho3.nlen
  clear ho3
  obtain ⟨r0, hr0⟩ : ∃ r, r = playOf x0 n1 n2 x3 n4 := ⟨_, rfl⟩
  have HR0 := hide hr0
  clear hr0
  by_cases hz3 : (x3.length : Int) ≤ 1048576
  · skip
    go_enter Try.func7, Try.ntmps7
    -- boxes of the parameters
    go_wp2_with fail
    refine (szCrewJobS_any x0 _ _ _ _ _ _ (HO0.out.below B0.out hl0) (hl0.up B0.out) (by omega) (by omega)).mono ?_
    rintro e u1 ⟨rfl, hb1⟩
    have S1 := hide (show w.heap.size ≤ u1.heap.size from by have := hb1.size; simpa only [World.size_alloc, size_setRow] using this)
    have B1 := hide (B0.out.trans (hb1.mono B0.out.size))
    clear hb1
    by_cases hbk0 : ((CrewJob.bulkL x0 : Nat) : Int) ≤ (1048576 : Int)
    · rw [szr_yes hbk0]
      have hb0 : r0.cntTop ≤ 2520 := by rw [HR0.out]; exact playOf_cntTop x0 n1 n2 x3 n4
      have hx0 := CrewJob.cntS_bulk x0
      go_wp2_with fail
      refine (toCrewJobS_any x0 _ _ _ _ _ (HO0.out.below B1.out hl0) (hl0.up B1.out) (by omega)).mono ?_
      rintro e u2 ⟨vwt0, fwt0, rfl, ywt0, zwt0, hb2⟩
      have S2 := hide (show u1.heap.size ≤ u2.heap.size from by have := hb2.size; simpa only [World.size_alloc, size_setRow] using this)
      have B2 := hide (B1.out.trans (hb2.mono B1.out.size))
      have Owt0 := hide ywt0
      have Nwt0 := hide zwt0
      have Lwt0 := hide (show ∀ g ∈ fwt0, u1.heap.size ≤ g ∧ g < u2.heap.size from fun g hg => ⟨by have := (zwt0.fr g hg).1; simpa only [World.size_alloc, size_setRow] using this, zwt0.lt g hg⟩)
      clear ywt0 zwt0
      clear hb2
      obtain ⟨wt0A, wt0c, rfl, _, _⟩ := Owt0.out.slice
      go_wp2_with fail
      refine (toIntS_any x3 _ _ _ _ _ (HO3.out.below B2.out hl3) (hl3.up B2.out) (by omega)).mono ?_
      rintro e u3 ⟨vwt3, fwt3, rfl, ywt3, zwt3, hb3⟩
      have S3 := hide (show u2.heap.size ≤ u3.heap.size from by have := hb3.size; simpa only [World.size_alloc, size_setRow] using this)
      have B3 := hide (B2.out.trans (hb3.mono B2.out.size))
      have Owt0 := hide (Owt0.out.below hb3 Nwt0.out.lt)
      have Nwt0 := hide (Nwt0.out.below hb3 Nwt0.out.lt)
      have Owt3 := hide ywt3
      have Nwt3 := hide zwt3
      have Lwt3 := hide (show ∀ g ∈ fwt3, u2.heap.size ≤ g ∧ g < u3.heap.size from fun g hg => ⟨by have := (zwt3.fr g hg).1; simpa only [World.size_alloc, size_setRow] using this, zwt3.lt g hg⟩)
      clear ywt3 zwt3
      clear hb3
      obtain ⟨wt3A, wt3c, rfl, _, _⟩ := Owt3.out.slice
      go_wp2_with fail
      refine (specCrewPlay_any x0 _ _ _ _ n1 n2 x3 _ _ _ _ n4 _ Owt0.out Nwt0.out.lt (by omega) hn1 hn2 Owt3.out Nwt3.out.lt (by omega) hn4).mono ?_
      rintro e u4 ⟨vw0, fw0, rfl, yw0, zw0, hb4⟩
      have S4 := hide (show u3.heap.size ≤ u4.heap.size from by have := hb4.size; simpa only [World.size_alloc, size_setRow] using this)
      have B4 := hide (B3.out.trans (hb4.mono B3.out.size))
      have Owt0 := hide (Owt0.out.below hb4 Nwt0.out.lt)
      have Nwt0 := hide (Nwt0.out.below hb4 Nwt0.out.lt)
      have Owt3 := hide (Owt3.out.below hb4 Nwt3.out.lt)
      have Nwt3 := hide (Nwt3.out.below hb4 Nwt3.out.lt)
      clear hb4
      rw [← HR0.out] at yw0
      have Ow0 := hide yw0
      have Nw0 := hide zw0
      have Lw0 := hide (show ∀ g ∈ fw0, u3.heap.size ≤ g ∧ g < u4.heap.size from fun g hg => ⟨by have := (zw0.fr g hg).1; simpa only [World.size_alloc, size_setRow] using this, zw0.lt g hg⟩)
      clear yw0 zw0
      have Tw0 := Ow0.out
      obtain ⟨w0A1, w0c1, w0A2, w0c2, w0f1, w0f2, rfl, w0o1, w0o2, w0w3, w0w4, w0w5, w0ef⟩ := Tw0.oCrewTold
      clear Tw0 w0o1 w0o2
      have hAPw0 : Below u4.heap.size u4 (u4.alloc (.cells #[.bool r0.ok, .slice w0A1 r0.items.length w0c1, .slice w0A2 r0.dead.length w0c2, .int .i64 r0.jobs, .int .i64 r0.steps, .int .i64 r0.ops] 45)) := (Below.refl _ _).alloc (Nat.le_refl _) _
      have BPw0 := hide (B4.out.trans (hAPw0.mono B4.out.size))
      have Ow0 := hide (Ow0.out.below hAPw0 Nw0.out.lt)
      have Nw0 := hide (Nw0.out.below hAPw0 Nw0.out.lt)
      have Pw0 : Row (u4.alloc (.cells #[.bool r0.ok, .slice w0A1 r0.items.length w0c1, .slice w0A2 r0.dead.length w0c2, .int .i64 r0.jobs, .int .i64 r0.steps, .int .i64 r0.ops] 45)) u4.heap.size 45 [.bool r0.ok, .slice w0A1 r0.items.length w0c1, .slice w0A2 r0.dead.length w0c2, .int .i64 r0.jobs, .int .i64 r0.steps, .int .i64 r0.ops] := Row.new u4 _ _
      clear hAPw0
      have c4_Pw0_0 := Pw0.cell 0
      have c4_Pw0_1 := Pw0.cell 1
      have c4_Pw0_2 := Pw0.cell 2
      have c4_Pw0_3 := Pw0.cell 3
      have c4_Pw0_4 := Pw0.cell 4
      have c4_Pw0_5 := Pw0.cell 5
      have lt4_Pw0 := Pw0.lt
      go_wp2_with fail
      refine (toCrewJobS_any x0 _ _ _ _ _ (HO0.out.below BPw0.out hl0) (hl0.up BPw0.out) (by omega)).mono ?_
      rintro e u5 ⟨vx0, fx0, rfl, yx0, zx0, hb5⟩
      clear c4_Pw0_0 c4_Pw0_1 c4_Pw0_2 c4_Pw0_3 c4_Pw0_4 c4_Pw0_5 lt4_Pw0
      have S5 := hide (show u4.heap.size + 1 ≤ u5.heap.size from by have := hb5.size; simpa only [World.size_alloc, size_setRow] using this)
      have B5 := hide (BPw0.out.trans (hb5.mono BPw0.out.size))
      have Pw0 := Pw0.below hb5 Pw0.lt
      have Ow0 := hide (Ow0.out.below hb5 Nw0.out.lt)
      have Nw0 := hide (Nw0.out.below hb5 Nw0.out.lt)
      have Ox0 := hide yx0
      have Nx0 := hide zx0
      have Lx0 := hide (show ∀ g ∈ fx0, u4.heap.size + 1 ≤ g ∧ g < u5.heap.size from fun g hg => ⟨by have := (zx0.fr g hg).1; simpa only [World.size_alloc, size_setRow] using this, zx0.lt g hg⟩)
      clear yx0 zx0
      clear hb5
      obtain ⟨x0A, x0c, rfl, _, _⟩ := Ox0.out.slice
      have c5_Pw0_0 := Pw0.cell 0
      have c5_Pw0_1 := Pw0.cell 1
      have c5_Pw0_2 := Pw0.cell 2
      have c5_Pw0_3 := Pw0.cell 3
      have c5_Pw0_4 := Pw0.cell 4
      have c5_Pw0_5 := Pw0.cell 5
      have lt5_Pw0 := Pw0.lt
      go_wp2_with fail
      refine (toIntS_any x3 _ _ _ _ _ (HO3.out.below B5.out hl3) (hl3.up B5.out) (by omega)).mono ?_
      rintro e u6 ⟨vx3, fx3, rfl, yx3, zx3, hb6⟩
      clear c5_Pw0_0 c5_Pw0_1 c5_Pw0_2 c5_Pw0_3 c5_Pw0_4 c5_Pw0_5 lt5_Pw0
      have S6 := hide (show u5.heap.size ≤ u6.heap.size from by have := hb6.size; simpa only [World.size_alloc, size_setRow] using this)
      have B6 := hide (B5.out.trans (hb6.mono B5.out.size))
      have Pw0 := Pw0.below hb6 Pw0.lt
      have Ow0 := hide (Ow0.out.below hb6 Nw0.out.lt)
      have Nw0 := hide (Nw0.out.below hb6 Nw0.out.lt)
      have Ox0 := hide (Ox0.out.below hb6 Nx0.out.lt)
      have Nx0 := hide (Nx0.out.below hb6 Nx0.out.lt)
      have Ox3 := hide yx3
      have Nx3 := hide zx3
      have Lx3 := hide (show ∀ g ∈ fx3, u5.heap.size ≤ g ∧ g < u6.heap.size from fun g hg => ⟨by have := (zx3.fr g hg).1; simpa only [World.size_alloc, size_setRow] using this, zx3.lt g hg⟩)
      clear yx3 zx3
      clear hb6
      obtain ⟨x3A, x3c, rfl, _, _⟩ := Ox3.out.slice
      have c6_Pw0_0 := Pw0.cell 0
      have c6_Pw0_1 := Pw0.cell 1
      have c6_Pw0_2 := Pw0.cell 2
      have c6_Pw0_3 := Pw0.cell 3
      have c6_Pw0_4 := Pw0.cell 4
      have c6_Pw0_5 := Pw0.cell 5
      have lt6_Pw0 := Pw0.lt
      go_wp2_with fail
      refine (implCrewPlay_any x0 _ _ _ _ n1 n2 x3 _ _ _ _ n4 _ Ox0.out Nx0.out.lt (by omega) hn1 hn2 Ox3.out Nx3.out.lt (by omega) hn4).mono ?_
      rintro e u7 ⟨vg0, fg0, rfl, yg0, zg0, hb7⟩
      clear c6_Pw0_0 c6_Pw0_1 c6_Pw0_2 c6_Pw0_3 c6_Pw0_4 c6_Pw0_5 lt6_Pw0
      have S7 := hide (show u6.heap.size ≤ u7.heap.size from by have := hb7.size; simpa only [World.size_alloc, size_setRow] using this)
      have B7 := hide (B6.out.trans (hb7.mono B6.out.size))
      have Pw0 := Pw0.below hb7 Pw0.lt
      have Ow0 := hide (Ow0.out.below hb7 Nw0.out.lt)
      have Nw0 := hide (Nw0.out.below hb7 Nw0.out.lt)
      have Ox0 := hide (Ox0.out.below hb7 Nx0.out.lt)
      have Nx0 := hide (Nx0.out.below hb7 Nx0.out.lt)
      have Ox3 := hide (Ox3.out.below hb7 Nx3.out.lt)
      have Nx3 := hide (Nx3.out.below hb7 Nx3.out.lt)
      clear hb7
      rw [← HR0.out] at yg0
      have Og0 := hide yg0
      have Ng0 := hide zg0
      have Lg0 := hide (show ∀ g ∈ fg0, u6.heap.size ≤ g ∧ g < u7.heap.size from fun g hg => ⟨by have := (zg0.fr g hg).1; simpa only [World.size_alloc, size_setRow] using this, zg0.lt g hg⟩)
      clear yg0 zg0
      have Tg0 := Og0.out
      obtain ⟨g0A1, g0c1, g0A2, g0c2, g0f1, g0f2, rfl, g0o1, g0o2, g0w3, g0w4, g0w5, g0ef⟩ := Tg0.oCrewTold
      clear Tg0 g0o1 g0o2
      have hAPg0 : Below u7.heap.size u7 (u7.alloc (.cells #[.bool r0.ok, .slice g0A1 r0.items.length g0c1, .slice g0A2 r0.dead.length g0c2, .int .i64 r0.jobs, .int .i64 r0.steps, .int .i64 r0.ops] 45)) := (Below.refl _ _).alloc (Nat.le_refl _) _
      have BPg0 := hide (B7.out.trans (hAPg0.mono B7.out.size))
      have Pw0 := Pw0.below hAPg0 Pw0.lt
      have Ow0 := hide (Ow0.out.below hAPg0 Nw0.out.lt)
      have Nw0 := hide (Nw0.out.below hAPg0 Nw0.out.lt)
      have Ox0 := hide (Ox0.out.below hAPg0 Nx0.out.lt)
      have Nx0 := hide (Nx0.out.below hAPg0 Nx0.out.lt)
      have Ox3 := hide (Ox3.out.below hAPg0 Nx3.out.lt)
      have Nx3 := hide (Nx3.out.below hAPg0 Nx3.out.lt)
      have Og0 := hide (Og0.out.below hAPg0 Ng0.out.lt)
      have Ng0 := hide (Ng0.out.below hAPg0 Ng0.out.lt)
      have Pg0 : Row (u7.alloc (.cells #[.bool r0.ok, .slice g0A1 r0.items.length g0c1, .slice g0A2 r0.dead.length g0c2, .int .i64 r0.jobs, .int .i64 r0.steps, .int .i64 r0.ops] 45)) u7.heap.size 45 [.bool r0.ok, .slice g0A1 r0.items.length g0c1, .slice g0A2 r0.dead.length g0c2, .int .i64 r0.jobs, .int .i64 r0.steps, .int .i64 r0.ops] := Row.new u7 _ _
      clear hAPg0
      have c7_Pw0_0 := Pw0.cell 0
      have c7_Pw0_1 := Pw0.cell 1
      have c7_Pw0_2 := Pw0.cell 2
      have c7_Pw0_3 := Pw0.cell 3
      have c7_Pw0_4 := Pw0.cell 4
      have c7_Pw0_5 := Pw0.cell 5
      have c7_Pg0_0 := Pg0.cell 0
      have c7_Pg0_1 := Pg0.cell 1
      have c7_Pg0_2 := Pg0.cell 2
      have c7_Pg0_3 := Pg0.cell 3
      have c7_Pg0_4 := Pg0.cell 4
      have c7_Pg0_5 := Pg0.cell 5
      have lt7_Pw0 := Pw0.lt
      have lt7_Pg0 := Pg0.lt
      go_wp2_with fail
      refine (eqCrewTold_any r0 _ _ _ _ _ Og0.out Ow0.out Ng0.out.lt Nw0.out.lt).mono ?_
      rintro e u8 ⟨rfl, hb8⟩
      clear c7_Pw0_0 c7_Pw0_1 c7_Pw0_2 c7_Pw0_3 c7_Pw0_4 c7_Pw0_5 c7_Pg0_0 c7_Pg0_1 c7_Pg0_2 c7_Pg0_3 c7_Pg0_4 c7_Pg0_5 lt7_Pw0 lt7_Pg0
      have S8 := hide (show u7.heap.size + 1 ≤ u8.heap.size from by have := hb8.size; simpa only [World.size_alloc, size_setRow] using this)
      have B8 := hide (BPg0.out.trans (hb8.mono BPg0.out.size))
      have Pw0 := Pw0.below hb8 Pw0.lt
      have Pg0 := Pg0.below hb8 Pg0.lt
      have Ow0 := hide (Ow0.out.below hb8 Nw0.out.lt)
      have Nw0 := hide (Nw0.out.below hb8 Nw0.out.lt)
      have Ox0 := hide (Ox0.out.below hb8 Nx0.out.lt)
      have Nx0 := hide (Nx0.out.below hb8 Nx0.out.lt)
      have Ox3 := hide (Ox3.out.below hb8 Nx3.out.lt)
      have Nx3 := hide (Nx3.out.below hb8 Nx3.out.lt)
      have Og0 := hide (Og0.out.below hb8 Ng0.out.lt)
      have Ng0 := hide (Ng0.out.below hb8 Ng0.out.lt)
      clear hb8
      have c8_Pw0_0 := Pw0.cell 0
      have c8_Pw0_1 := Pw0.cell 1
      have c8_Pw0_2 := Pw0.cell 2
      have c8_Pw0_3 := Pw0.cell 3
      have c8_Pw0_4 := Pw0.cell 4
      have c8_Pw0_5 := Pw0.cell 5
      have c8_Pg0_0 := Pg0.cell 0
      have c8_Pg0_1 := Pg0.cell 1
      have c8_Pg0_2 := Pg0.cell 2
      have c8_Pg0_3 := Pg0.cell 3
      have c8_Pg0_4 := Pg0.cell 4
      have c8_Pg0_5 := Pg0.cell 5
      have lt8_Pw0 := Pw0.lt
      have lt8_Pg0 := Pg0.lt
      go_wp2_with fail
      refine (toCrewJobS_any x0 _ _ _ _ _ (HO0.out.below B8.out hl0) (hl0.up B8.out) (by omega)).mono ?_
      rintro e u9 ⟨ve0, fe0, rfl, ye0, ze0, hb9⟩
      clear c8_Pw0_0 c8_Pw0_1 c8_Pw0_2 c8_Pw0_3 c8_Pw0_4 c8_Pw0_5 c8_Pg0_0 c8_Pg0_1 c8_Pg0_2 c8_Pg0_3 c8_Pg0_4 c8_Pg0_5 lt8_Pw0 lt8_Pg0
      have S9 := hide (show u8.heap.size ≤ u9.heap.size from by have := hb9.size; simpa only [World.size_alloc, size_setRow] using this)
      have B9 := hide (B8.out.trans (hb9.mono B8.out.size))
      have Pw0 := Pw0.below hb9 Pw0.lt
      have Pg0 := Pg0.below hb9 Pg0.lt
      have Ow0 := hide (Ow0.out.below hb9 Nw0.out.lt)
      have Nw0 := hide (Nw0.out.below hb9 Nw0.out.lt)
      have Ox0 := hide (Ox0.out.below hb9 Nx0.out.lt)
      have Nx0 := hide (Nx0.out.below hb9 Nx0.out.lt)
      have Ox3 := hide (Ox3.out.below hb9 Nx3.out.lt)
      have Nx3 := hide (Nx3.out.below hb9 Nx3.out.lt)
      have Og0 := hide (Og0.out.below hb9 Ng0.out.lt)
      have Ng0 := hide (Ng0.out.below hb9 Ng0.out.lt)
      have Oe0 := hide ye0
      have Ne0 := hide ze0
      have Le0 := hide (show ∀ g ∈ fe0, u8.heap.size ≤ g ∧ g < u9.heap.size from fun g hg => ⟨by have := (ze0.fr g hg).1; simpa only [World.size_alloc, size_setRow] using this, ze0.lt g hg⟩)
      clear ye0 ze0
      clear hb9
      obtain ⟨e0A, e0c, rfl, _, _⟩ := Oe0.out.slice
      have lt9_Pw0 := Pw0.lt
      have lt9_Pg0 := Pg0.lt
      go_wp2_with fail
      refine (eqCrewJobS_any x0 _ _ _ _ _ _ _ _ _ Ox0.out Oe0.out Nx0.out.lt Ne0.out.lt).mono ?_
      rintro e u10 ⟨rfl, hb10⟩
      clear lt9_Pw0 lt9_Pg0
      have S10 := hide (show u9.heap.size ≤ u10.heap.size from by have := hb10.size; simpa only [World.size_alloc, size_setRow] using this)
      have B10 := hide (B9.out.trans (hb10.mono B9.out.size))
      have Pw0 := Pw0.below hb10 Pw0.lt
      have Pg0 := Pg0.below hb10 Pg0.lt
      have Ow0 := hide (Ow0.out.below hb10 Nw0.out.lt)
      have Nw0 := hide (Nw0.out.below hb10 Nw0.out.lt)
      have Ox0 := hide (Ox0.out.below hb10 Nx0.out.lt)
      have Nx0 := hide (Nx0.out.below hb10 Nx0.out.lt)
      have Ox3 := hide (Ox3.out.below hb10 Nx3.out.lt)
      have Nx3 := hide (Nx3.out.below hb10 Nx3.out.lt)
      have Og0 := hide (Og0.out.below hb10 Ng0.out.lt)
      have Ng0 := hide (Ng0.out.below hb10 Ng0.out.lt)
      have Oe0 := hide (Oe0.out.below hb10 Ne0.out.lt)
      have Ne0 := hide (Ne0.out.below hb10 Ne0.out.lt)
      clear hb10
      have c10_Pw0_0 := Pw0.cell 0
      have c10_Pw0_1 := Pw0.cell 1
      have c10_Pw0_2 := Pw0.cell 2
      have c10_Pw0_3 := Pw0.cell 3
      have c10_Pw0_4 := Pw0.cell 4
      have c10_Pw0_5 := Pw0.cell 5
      have c10_Pg0_0 := Pg0.cell 0
      have c10_Pg0_1 := Pg0.cell 1
      have c10_Pg0_2 := Pg0.cell 2
      have c10_Pg0_3 := Pg0.cell 3
      have c10_Pg0_4 := Pg0.cell 4
      have c10_Pg0_5 := Pg0.cell 5
      have lt10_Pw0 := Pw0.lt
      have lt10_Pg0 := Pg0.lt
      go_wp2_with fail
      refine (toIntS_any x3 _ _ _ _ _ (HO3.out.below B10.out hl3) (hl3.up B10.out) (by omega)).mono ?_
      rintro e u11 ⟨ve3, fe3, rfl, ye3, ze3, hb11⟩
      clear c10_Pw0_0 c10_Pw0_1 c10_Pw0_2 c10_Pw0_3 c10_Pw0_4 c10_Pw0_5 c10_Pg0_0 c10_Pg0_1 c10_Pg0_2 c10_Pg0_3 c10_Pg0_4 c10_Pg0_5 lt10_Pw0 lt10_Pg0
      have S11 := hide (show u10.heap.size ≤ u11.heap.size from by have := hb11.size; simpa only [World.size_alloc, size_setRow] using this)
      have B11 := hide (B10.out.trans (hb11.mono B10.out.size))
      have Pw0 := Pw0.below hb11 Pw0.lt
      have Pg0 := Pg0.below hb11 Pg0.lt
      have Ow0 := hide (Ow0.out.below hb11 Nw0.out.lt)
      have Nw0 := hide (Nw0.out.below hb11 Nw0.out.lt)
      have Ox0 := hide (Ox0.out.below hb11 Nx0.out.lt)
      have Nx0 := hide (Nx0.out.below hb11 Nx0.out.lt)
      have Ox3 := hide (Ox3.out.below hb11 Nx3.out.lt)
      have Nx3 := hide (Nx3.out.below hb11 Nx3.out.lt)
      have Og0 := hide (Og0.out.below hb11 Ng0.out.lt)
      have Ng0 := hide (Ng0.out.below hb11 Ng0.out.lt)
      have Oe3 := hide ye3
      have Ne3 := hide ze3
      have Le3 := hide (show ∀ g ∈ fe3, u10.heap.size ≤ g ∧ g < u11.heap.size from fun g hg => ⟨by have := (ze3.fr g hg).1; simpa only [World.size_alloc, size_setRow] using this, ze3.lt g hg⟩)
      clear ye3 ze3
      clear hb11
      obtain ⟨e3A, e3c, rfl, _, _⟩ := Oe3.out.slice
      have lt11_Pw0 := Pw0.lt
      have lt11_Pg0 := Pg0.lt
      go_wp2_with fail
      refine (eqIntS_same x3 _ _ _ _ _ _ _ _ _ Ox3.out Oe3.out).mono ?_
      rintro e u12 ⟨rfl, hb12⟩
      clear lt11_Pw0 lt11_Pg0
      have S12 := hide (show u11.heap.size ≤ u12.heap.size from by have := hb12.size; simpa only [World.size_alloc, size_setRow] using this)
      have B12 := hide (B11.out.trans (hb12.mono B11.out.size))
      have Pw0 := Pw0.below hb12 Pw0.lt
      have Pg0 := Pg0.below hb12 Pg0.lt
      have Ow0 := hide (Ow0.out.below hb12 Nw0.out.lt)
      have Nw0 := hide (Nw0.out.below hb12 Nw0.out.lt)
      have Ox0 := hide (Ox0.out.below hb12 Nx0.out.lt)
      have Nx0 := hide (Nx0.out.below hb12 Nx0.out.lt)
      have Ox3 := hide (Ox3.out.below hb12 Nx3.out.lt)
      have Nx3 := hide (Nx3.out.below hb12 Nx3.out.lt)
      have Og0 := hide (Og0.out.below hb12 Ng0.out.lt)
      have Ng0 := hide (Ng0.out.below hb12 Ng0.out.lt)
      have Oe3 := hide (Oe3.out.below hb12 Ne3.out.lt)
      have Ne3 := hide (Ne3.out.below hb12 Ne3.out.lt)
      clear hb12
      have c12_Pw0_0 := Pw0.cell 0
      have c12_Pw0_1 := Pw0.cell 1
      have c12_Pw0_2 := Pw0.cell 2
      have c12_Pw0_3 := Pw0.cell 3
      have c12_Pw0_4 := Pw0.cell 4
      have c12_Pw0_5 := Pw0.cell 5
      have c12_Pg0_0 := Pg0.cell 0
      have c12_Pg0_1 := Pg0.cell 1
      have c12_Pg0_2 := Pg0.cell 2
      have c12_Pg0_3 := Pg0.cell 3
      have c12_Pg0_4 := Pg0.cell 4
      have c12_Pg0_5 := Pg0.cell 5
      have lt12_Pw0 := Pw0.lt
      have lt12_Pg0 := Pg0.lt
      go_wp2_with fail
      refine (markCrewJobS_any x0 _ _ _ fx0 _ _ (1) _ (by omega) Ox0.out Nx0.out (by omega)).mono ?_
      rintro e u13 ⟨lx0, rfl, qx0, ox0, kx0, ht13⟩
      clear c12_Pw0_0 c12_Pw0_1 c12_Pw0_2 c12_Pw0_3 c12_Pw0_4 c12_Pw0_5 c12_Pg0_0 c12_Pg0_1 c12_Pg0_2 c12_Pg0_3 c12_Pg0_4 c12_Pg0_5 lt12_Pw0 lt12_Pg0
      have S13 := hide (show u12.heap.size ≤ u13.heap.size from ht13.size)
      have B13 := hide (B12.out.trans (ht13.to_below B12.out.size (fun g hg => by have := Lx0.out g hg; have := S1.out; have := S2.out; have := S3.out; have := S4.out; have := S5.out; have := S6.out; have := S7.out; have := S8.out; have := S9.out; have := S10.out; have := S11.out; have := S12.out; omega)))
      have Pw0 := rowTouch Pw0 ht13 (fun hg => by have := Lx0.out _ hg; have := S1.out; have := S2.out; have := S3.out; have := S4.out; have := S5.out; have := S6.out; have := S7.out; have := S8.out; have := S9.out; have := S10.out; have := S11.out; have := S12.out; omega)
      have Pg0 := rowTouch Pg0 ht13 (fun hg => by have := Lx0.out _ hg; have := S1.out; have := S2.out; have := S3.out; have := S4.out; have := S5.out; have := S6.out; have := S7.out; have := S8.out; have := S9.out; have := S10.out; have := S11.out; have := S12.out; omega)
      have Ow0 := hide (Ow0.out.touch ht13 Nw0.out.lt (fun g hg hg2 => by have := Lw0.out g hg; have := Lx0.out g hg2; have := S1.out; have := S2.out; have := S3.out; have := S4.out; have := S5.out; have := S6.out; have := S7.out; have := S8.out; have := S9.out; have := S10.out; have := S11.out; have := S12.out; omega))
      have Nw0 := hide (ht13.new Nw0.out)
      have Ox3 := hide (Ox3.out.touch ht13 Nx3.out.lt (fun g hg hg2 => by have := Lx3.out g hg; have := Lx0.out g hg2; have := S1.out; have := S2.out; have := S3.out; have := S4.out; have := S5.out; have := S6.out; have := S7.out; have := S8.out; have := S9.out; have := S10.out; have := S11.out; have := S12.out; omega))
      have Nx3 := hide (ht13.new Nx3.out)
      have Og0 := hide (Og0.out.touch ht13 Ng0.out.lt (fun g hg hg2 => by have := Lg0.out g hg; have := Lx0.out g hg2; have := S1.out; have := S2.out; have := S3.out; have := S4.out; have := S5.out; have := S6.out; have := S7.out; have := S8.out; have := S9.out; have := S10.out; have := S11.out; have := S12.out; omega))
      have Ng0 := hide (ht13.new Ng0.out)
      have Ox0 := hide ox0
      have Nx0 := hide (ht13.new Nx0.out)
      have Kx0 := hide kx0
      clear ox0 kx0 ht13 qx0
      have c13_Pw0_0 := Pw0.cell 0
      have c13_Pw0_1 := Pw0.cell 1
      have c13_Pw0_2 := Pw0.cell 2
      have c13_Pw0_3 := Pw0.cell 3
      have c13_Pw0_4 := Pw0.cell 4
      have c13_Pw0_5 := Pw0.cell 5
      have c13_Pg0_0 := Pg0.cell 0
      have c13_Pg0_1 := Pg0.cell 1
      have c13_Pg0_2 := Pg0.cell 2
      have c13_Pg0_3 := Pg0.cell 3
      have c13_Pg0_4 := Pg0.cell 4
      have c13_Pg0_5 := Pg0.cell 5
      have lt13_Pw0 := Pw0.lt
      have lt13_Pg0 := Pg0.lt
      go_wp2_with fail
      refine (markIntS_any x3 _ _ _ fx3 _ _ (1 + CrewJob.cntS x0) _ (by omega) Ox3.out Nx3.out (by omega)).mono ?_
      rintro e u14 ⟨lx3, rfl, qx3, ox3, kx3, ht14⟩
      clear c13_Pw0_0 c13_Pw0_1 c13_Pw0_2 c13_Pw0_3 c13_Pw0_4 c13_Pw0_5 c13_Pg0_0 c13_Pg0_1 c13_Pg0_2 c13_Pg0_3 c13_Pg0_4 c13_Pg0_5 lt13_Pw0 lt13_Pg0
      have S14 := hide (show u13.heap.size ≤ u14.heap.size from ht14.size)
      have B14 := hide (B13.out.trans (ht14.to_below B13.out.size (fun g hg => by have := Lx3.out g hg; have := S1.out; have := S2.out; have := S3.out; have := S4.out; have := S5.out; have := S6.out; have := S7.out; have := S8.out; have := S9.out; have := S10.out; have := S11.out; have := S12.out; have := S13.out; omega)))
      have Pw0 := rowTouch Pw0 ht14 (fun hg => by have := Lx3.out _ hg; have := S1.out; have := S2.out; have := S3.out; have := S4.out; have := S5.out; have := S6.out; have := S7.out; have := S8.out; have := S9.out; have := S10.out; have := S11.out; have := S12.out; have := S13.out; omega)
      have Pg0 := rowTouch Pg0 ht14 (fun hg => by have := Lx3.out _ hg; have := S1.out; have := S2.out; have := S3.out; have := S4.out; have := S5.out; have := S6.out; have := S7.out; have := S8.out; have := S9.out; have := S10.out; have := S11.out; have := S12.out; have := S13.out; omega)
      have Ow0 := hide (Ow0.out.touch ht14 Nw0.out.lt (fun g hg hg2 => by have := Lw0.out g hg; have := Lx3.out g hg2; have := S1.out; have := S2.out; have := S3.out; have := S4.out; have := S5.out; have := S6.out; have := S7.out; have := S8.out; have := S9.out; have := S10.out; have := S11.out; have := S12.out; have := S13.out; omega))
      have Nw0 := hide (ht14.new Nw0.out)
      have Ox0 := hide (Ox0.out.touch ht14 Nx0.out.lt (fun g hg hg2 => by have := Lx0.out g hg; have := Lx3.out g hg2; have := S1.out; have := S2.out; have := S3.out; have := S4.out; have := S5.out; have := S6.out; have := S7.out; have := S8.out; have := S9.out; have := S10.out; have := S11.out; have := S12.out; have := S13.out; omega))
      have Nx0 := hide (ht14.new Nx0.out)
      have Og0 := hide (Og0.out.touch ht14 Ng0.out.lt (fun g hg hg2 => by have := Lg0.out g hg; have := Lx3.out g hg2; have := S1.out; have := S2.out; have := S3.out; have := S4.out; have := S5.out; have := S6.out; have := S7.out; have := S8.out; have := S9.out; have := S10.out; have := S11.out; have := S12.out; have := S13.out; omega))
      have Ng0 := hide (ht14.new Ng0.out)
      have Ox3 := hide ox3
      have Nx3 := hide (ht14.new Nx3.out)
      have Kx3 := hide kx3
      clear ox3 kx3 ht14 qx3
      have c14_Pw0_0 := Pw0.cell 0
      have c14_Pw0_1 := Pw0.cell 1
      have c14_Pw0_2 := Pw0.cell 2
      have c14_Pw0_3 := Pw0.cell 3
      have c14_Pw0_4 := Pw0.cell 4
      have c14_Pw0_5 := Pw0.cell 5
      have c14_Pg0_0 := Pg0.cell 0
      have c14_Pg0_1 := Pg0.cell 1
      have c14_Pg0_2 := Pg0.cell 2
      have c14_Pg0_3 := Pg0.cell 3
      have c14_Pg0_4 := Pg0.cell 4
      have c14_Pg0_5 := Pg0.cell 5
      have lt14_Pw0 := Pw0.lt
      have lt14_Pg0 := Pg0.lt
      go_wp2_with fail
      refine (eqCrewTold_any r0 _ _ _ _ _ Og0.out Ow0.out Ng0.out.lt Nw0.out.lt).mono ?_
      rintro e u15 ⟨rfl, hb15⟩
      clear c14_Pw0_0 c14_Pw0_1 c14_Pw0_2 c14_Pw0_3 c14_Pw0_4 c14_Pw0_5 c14_Pg0_0 c14_Pg0_1 c14_Pg0_2 c14_Pg0_3 c14_Pg0_4 c14_Pg0_5 lt14_Pw0 lt14_Pg0
      have S15 := hide (show u14.heap.size ≤ u15.heap.size from by have := hb15.size; simpa only [World.size_alloc, size_setRow] using this)
      have B15 := hide (B14.out.trans (hb15.mono B14.out.size))
      have Pw0 := Pw0.below hb15 Pw0.lt
      have Pg0 := Pg0.below hb15 Pg0.lt
      have Ow0 := hide (Ow0.out.below hb15 Nw0.out.lt)
      have Nw0 := hide (Nw0.out.below hb15 Nw0.out.lt)
      have Og0 := hide (Og0.out.below hb15 Ng0.out.lt)
      have Ng0 := hide (Ng0.out.below hb15 Ng0.out.lt)
      clear hb15
      have c15_Pw0_0 := Pw0.cell 0
      have c15_Pw0_1 := Pw0.cell 1
      have c15_Pw0_2 := Pw0.cell 2
      have c15_Pw0_3 := Pw0.cell 3
      have c15_Pw0_4 := Pw0.cell 4
      have c15_Pw0_5 := Pw0.cell 5
      have c15_Pg0_0 := Pg0.cell 0
      have c15_Pg0_1 := Pg0.cell 1
      have c15_Pg0_2 := Pg0.cell 2
      have c15_Pg0_3 := Pg0.cell 3
      have c15_Pg0_4 := Pg0.cell 4
      have c15_Pg0_5 := Pg0.cell 5
      have lt15_Pw0 := Pw0.lt
      have lt15_Pg0 := Pg0.lt
      go_wp2_with fail
      refine (markCrewTold_any r0 _ fg0 _ _ (1) _ (by omega) Og0.out Ng0.out (by omega)).mono ?_
      rintro e u16 ⟨lg0, rfl, og0, kg0, ht16⟩
      clear c15_Pw0_0 c15_Pw0_1 c15_Pw0_2 c15_Pw0_3 c15_Pw0_4 c15_Pw0_5 c15_Pg0_0 c15_Pg0_1 c15_Pg0_2 c15_Pg0_3 c15_Pg0_4 c15_Pg0_5 lt15_Pw0 lt15_Pg0
      have S16 := hide (show u15.heap.size ≤ u16.heap.size from ht16.size)
      have B16 := hide (B15.out.trans (ht16.to_below B15.out.size (fun g hg => by have := Lg0.out g hg; have := S1.out; have := S2.out; have := S3.out; have := S4.out; have := S5.out; have := S6.out; have := S7.out; have := S8.out; have := S9.out; have := S10.out; have := S11.out; have := S12.out; have := S13.out; have := S14.out; have := S15.out; omega)))
      have Pw0 := rowTouch Pw0 ht16 (fun hg => by have := Lg0.out _ hg; have := S1.out; have := S2.out; have := S3.out; have := S4.out; have := S5.out; have := S6.out; have := S7.out; have := S8.out; have := S9.out; have := S10.out; have := S11.out; have := S12.out; have := S13.out; have := S14.out; have := S15.out; omega)
      have Pg0 := rowTouch Pg0 ht16 (fun hg => by have := Lg0.out _ hg; have := S1.out; have := S2.out; have := S3.out; have := S4.out; have := S5.out; have := S6.out; have := S7.out; have := S8.out; have := S9.out; have := S10.out; have := S11.out; have := S12.out; have := S13.out; have := S14.out; have := S15.out; omega)
      have Ow0 := hide (Ow0.out.touch ht16 Nw0.out.lt (fun g hg hg2 => by have := Lw0.out g hg; have := Lg0.out g hg2; have := S1.out; have := S2.out; have := S3.out; have := S4.out; have := S5.out; have := S6.out; have := S7.out; have := S8.out; have := S9.out; have := S10.out; have := S11.out; have := S12.out; have := S13.out; have := S14.out; have := S15.out; omega))
      have Nw0 := hide (ht16.new Nw0.out)
      have Og0 := hide og0
      have Ng0 := hide (ht16.new Ng0.out)
      have Kg0 := hide kg0
      clear og0 kg0 ht16
      have c16_Pw0_0 := Pw0.cell 0
      have c16_Pw0_1 := Pw0.cell 1
      have c16_Pw0_2 := Pw0.cell 2
      have c16_Pw0_3 := Pw0.cell 3
      have c16_Pw0_4 := Pw0.cell 4
      have c16_Pw0_5 := Pw0.cell 5
      have c16_Pg0_0 := Pg0.cell 0
      have c16_Pg0_1 := Pg0.cell 1
      have c16_Pg0_2 := Pg0.cell 2
      have c16_Pg0_3 := Pg0.cell 3
      have c16_Pg0_4 := Pg0.cell 4
      have c16_Pg0_5 := Pg0.cell 5
      have lt16_Pw0 := Pw0.lt
      have lt16_Pg0 := Pg0.lt
      go_wp2_with fail
      refine (heldCrewTold_any lg0 _ fg0 _ (1) (1 + r0.cntTop) _ (by omega) Og0.out Ng0.out.lt Kg0.out (by omega)).mono ?_
      rintro e u17 ⟨rfl, hb17⟩
      clear c16_Pw0_0 c16_Pw0_1 c16_Pw0_2 c16_Pw0_3 c16_Pw0_4 c16_Pw0_5 c16_Pg0_0 c16_Pg0_1 c16_Pg0_2 c16_Pg0_3 c16_Pg0_4 c16_Pg0_5 lt16_Pw0 lt16_Pg0
      have S17 := hide (show u16.heap.size ≤ u17.heap.size from by have := hb17.size; simpa only [World.size_alloc, size_setRow] using this)
      have B17 := hide (B16.out.trans (hb17.mono B16.out.size))
      have Pw0 := Pw0.below hb17 Pw0.lt
      have Pg0 := Pg0.below hb17 Pg0.lt
      have Ow0 := hide (Ow0.out.below hb17 Nw0.out.lt)
      have Nw0 := hide (Nw0.out.below hb17 Nw0.out.lt)
      have Og0 := hide (Og0.out.below hb17 Ng0.out.lt)
      have Ng0 := hide (Ng0.out.below hb17 Ng0.out.lt)
      clear hb17
      have c17_Pw0_0 := Pw0.cell 0
      have c17_Pw0_1 := Pw0.cell 1
      have c17_Pw0_2 := Pw0.cell 2
      have c17_Pw0_3 := Pw0.cell 3
      have c17_Pw0_4 := Pw0.cell 4
      have c17_Pw0_5 := Pw0.cell 5
      have c17_Pg0_0 := Pg0.cell 0
      have c17_Pg0_1 := Pg0.cell 1
      have c17_Pg0_2 := Pg0.cell 2
      have c17_Pg0_3 := Pg0.cell 3
      have c17_Pg0_4 := Pg0.cell 4
      have c17_Pg0_5 := Pg0.cell 5
      have lt17_Pw0 := Pw0.lt
      have lt17_Pg0 := Pg0.lt
      go_wp2_with fail
      refine (toCrewJobS_any x0 _ _ _ _ _ (HO0.out.below B17.out hl0) (hl0.up B17.out) (by omega)).mono ?_
      rintro e u18 ⟨vht0, fht0, rfl, yht0, zht0, hb18⟩
      clear c17_Pw0_0 c17_Pw0_1 c17_Pw0_2 c17_Pw0_3 c17_Pw0_4 c17_Pw0_5 c17_Pg0_0 c17_Pg0_1 c17_Pg0_2 c17_Pg0_3 c17_Pg0_4 c17_Pg0_5 lt17_Pw0 lt17_Pg0
      have S18 := hide (show u17.heap.size ≤ u18.heap.size from by have := hb18.size; simpa only [World.size_alloc, size_setRow] using this)
      have B18 := hide (B17.out.trans (hb18.mono B17.out.size))
      have Pw0 := Pw0.below hb18 Pw0.lt
      have Pg0 := Pg0.below hb18 Pg0.lt
      have Ow0 := hide (Ow0.out.below hb18 Nw0.out.lt)
      have Nw0 := hide (Nw0.out.below hb18 Nw0.out.lt)
      have Og0 := hide (Og0.out.below hb18 Ng0.out.lt)
      have Ng0 := hide (Ng0.out.below hb18 Ng0.out.lt)
      have Oht0 := hide yht0
      have Nht0 := hide zht0
      have Lht0 := hide (show ∀ g ∈ fht0, u17.heap.size ≤ g ∧ g < u18.heap.size from fun g hg => ⟨by have := (zht0.fr g hg).1; simpa only [World.size_alloc, size_setRow] using this, zht0.lt g hg⟩)
      clear yht0 zht0
      clear hb18
      obtain ⟨ht0A, ht0c, rfl, _, _⟩ := Oht0.out.slice
      have lt18_Pw0 := Pw0.lt
      have lt18_Pg0 := Pg0.lt
      go_wp2_with fail
      refine (toIntS_any x3 _ _ _ _ _ (HO3.out.below B18.out hl3) (hl3.up B18.out) (by omega)).mono ?_
      rintro e u19 ⟨vht3, fht3, rfl, yht3, zht3, hb19⟩
      clear lt18_Pw0 lt18_Pg0
      have S19 := hide (show u18.heap.size ≤ u19.heap.size from by have := hb19.size; simpa only [World.size_alloc, size_setRow] using this)
      have B19 := hide (B18.out.trans (hb19.mono B18.out.size))
      have Pw0 := Pw0.below hb19 Pw0.lt
      have Pg0 := Pg0.below hb19 Pg0.lt
      have Ow0 := hide (Ow0.out.below hb19 Nw0.out.lt)
      have Nw0 := hide (Nw0.out.below hb19 Nw0.out.lt)
      have Og0 := hide (Og0.out.below hb19 Ng0.out.lt)
      have Ng0 := hide (Ng0.out.below hb19 Ng0.out.lt)
      have Oht0 := hide (Oht0.out.below hb19 Nht0.out.lt)
      have Nht0 := hide (Nht0.out.below hb19 Nht0.out.lt)
      have Oht3 := hide yht3
      have Nht3 := hide zht3
      have Lht3 := hide (show ∀ g ∈ fht3, u18.heap.size ≤ g ∧ g < u19.heap.size from fun g hg => ⟨by have := (zht3.fr g hg).1; simpa only [World.size_alloc, size_setRow] using this, zht3.lt g hg⟩)
      clear yht3 zht3
      clear hb19
      obtain ⟨ht3A, ht3c, rfl, _, _⟩ := Oht3.out.slice
      have lt19_Pw0 := Pw0.lt
      have lt19_Pg0 := Pg0.lt
      go_wp2_with fail
      refine (implCrewPlay_any x0 _ _ _ _ n1 n2 x3 _ _ _ _ n4 _ Oht0.out Nht0.out.lt (by omega) hn1 hn2 Oht3.out Nht3.out.lt (by omega) hn4).mono ?_
      rintro e u20 ⟨vh0, fh0, rfl, yh0, zh0, hb20⟩
      clear lt19_Pw0 lt19_Pg0
      have S20 := hide (show u19.heap.size ≤ u20.heap.size from by have := hb20.size; simpa only [World.size_alloc, size_setRow] using this)
      have B20 := hide (B19.out.trans (hb20.mono B19.out.size))
      have Pw0 := Pw0.below hb20 Pw0.lt
      have Pg0 := Pg0.below hb20 Pg0.lt
      have Ow0 := hide (Ow0.out.below hb20 Nw0.out.lt)
      have Nw0 := hide (Nw0.out.below hb20 Nw0.out.lt)
      have Og0 := hide (Og0.out.below hb20 Ng0.out.lt)
      have Ng0 := hide (Ng0.out.below hb20 Ng0.out.lt)
      have Oht0 := hide (Oht0.out.below hb20 Nht0.out.lt)
      have Nht0 := hide (Nht0.out.below hb20 Nht0.out.lt)
      have Oht3 := hide (Oht3.out.below hb20 Nht3.out.lt)
      have Nht3 := hide (Nht3.out.below hb20 Nht3.out.lt)
      clear hb20
      rw [← HR0.out] at yh0
      have Oh0 := hide yh0
      have Nh0 := hide zh0
      have Lh0 := hide (show ∀ g ∈ fh0, u19.heap.size ≤ g ∧ g < u20.heap.size from fun g hg => ⟨by have := (zh0.fr g hg).1; simpa only [World.size_alloc, size_setRow] using this, zh0.lt g hg⟩)
      clear yh0 zh0
      have Th0 := Oh0.out
      obtain ⟨h0A1, h0c1, h0A2, h0c2, h0f1, h0f2, rfl, h0o1, h0o2, h0w3, h0w4, h0w5, h0ef⟩ := Th0.oCrewTold
      clear Th0 h0o1 h0o2
      have hAPh0 : Below u20.heap.size u20 (u20.alloc (.cells #[.bool r0.ok, .slice h0A1 r0.items.length h0c1, .slice h0A2 r0.dead.length h0c2, .int .i64 r0.jobs, .int .i64 r0.steps, .int .i64 r0.ops] 45)) := (Below.refl _ _).alloc (Nat.le_refl _) _
      have BPh0 := hide (B20.out.trans (hAPh0.mono B20.out.size))
      have Pw0 := Pw0.below hAPh0 Pw0.lt
      have Pg0 := Pg0.below hAPh0 Pg0.lt
      have Ow0 := hide (Ow0.out.below hAPh0 Nw0.out.lt)
      have Nw0 := hide (Nw0.out.below hAPh0 Nw0.out.lt)
      have Og0 := hide (Og0.out.below hAPh0 Ng0.out.lt)
      have Ng0 := hide (Ng0.out.below hAPh0 Ng0.out.lt)
      have Oh0 := hide (Oh0.out.below hAPh0 Nh0.out.lt)
      have Nh0 := hide (Nh0.out.below hAPh0 Nh0.out.lt)
      have Ph0 : Row (u20.alloc (.cells #[.bool r0.ok, .slice h0A1 r0.items.length h0c1, .slice h0A2 r0.dead.length h0c2, .int .i64 r0.jobs, .int .i64 r0.steps, .int .i64 r0.ops] 45)) u20.heap.size 45 [.bool r0.ok, .slice h0A1 r0.items.length h0c1, .slice h0A2 r0.dead.length h0c2, .int .i64 r0.jobs, .int .i64 r0.steps, .int .i64 r0.ops] := Row.new u20 _ _
      clear hAPh0
      have c20_Pw0_0 := Pw0.cell 0
      have c20_Pw0_1 := Pw0.cell 1
      have c20_Pw0_2 := Pw0.cell 2
      have c20_Pw0_3 := Pw0.cell 3
      have c20_Pw0_4 := Pw0.cell 4
      have c20_Pw0_5 := Pw0.cell 5
      have c20_Pg0_0 := Pg0.cell 0
      have c20_Pg0_1 := Pg0.cell 1
      have c20_Pg0_2 := Pg0.cell 2
      have c20_Pg0_3 := Pg0.cell 3
      have c20_Pg0_4 := Pg0.cell 4
      have c20_Pg0_5 := Pg0.cell 5
      have c20_Ph0_0 := Ph0.cell 0
      have c20_Ph0_1 := Ph0.cell 1
      have c20_Ph0_2 := Ph0.cell 2
      have c20_Ph0_3 := Ph0.cell 3
      have c20_Ph0_4 := Ph0.cell 4
      have c20_Ph0_5 := Ph0.cell 5
      have lt20_Pw0 := Pw0.lt
      have lt20_Pg0 := Pg0.lt
      have lt20_Ph0 := Ph0.lt
      go_wp2_with fail
      refine (eqCrewTold_any r0 _ _ _ _ _ Oh0.out Ow0.out Nh0.out.lt Nw0.out.lt).mono ?_
      rintro e u21 ⟨rfl, hb21⟩
      clear c20_Pw0_0 c20_Pw0_1 c20_Pw0_2 c20_Pw0_3 c20_Pw0_4 c20_Pw0_5 c20_Pg0_0 c20_Pg0_1 c20_Pg0_2 c20_Pg0_3 c20_Pg0_4 c20_Pg0_5 c20_Ph0_0 c20_Ph0_1 c20_Ph0_2 c20_Ph0_3 c20_Ph0_4 c20_Ph0_5 lt20_Pw0 lt20_Pg0 lt20_Ph0
      have S21 := hide (show u20.heap.size + 1 ≤ u21.heap.size from by have := hb21.size; simpa only [World.size_alloc, size_setRow] using this)
      have B21 := hide (BPh0.out.trans (hb21.mono BPh0.out.size))
      have Pw0 := Pw0.below hb21 Pw0.lt
      have Pg0 := Pg0.below hb21 Pg0.lt
      have Ph0 := Ph0.below hb21 Ph0.lt
      have Ow0 := hide (Ow0.out.below hb21 Nw0.out.lt)
      have Nw0 := hide (Nw0.out.below hb21 Nw0.out.lt)
      have Og0 := hide (Og0.out.below hb21 Ng0.out.lt)
      have Ng0 := hide (Ng0.out.below hb21 Ng0.out.lt)
      have Oh0 := hide (Oh0.out.below hb21 Nh0.out.lt)
      have Nh0 := hide (Nh0.out.below hb21 Nh0.out.lt)
      clear hb21
      have c21_Pw0_0 := Pw0.cell 0
      have c21_Pw0_1 := Pw0.cell 1
      have c21_Pw0_2 := Pw0.cell 2
      have c21_Pw0_3 := Pw0.cell 3
      have c21_Pw0_4 := Pw0.cell 4
      have c21_Pw0_5 := Pw0.cell 5
      have c21_Pg0_0 := Pg0.cell 0
      have c21_Pg0_1 := Pg0.cell 1
      have c21_Pg0_2 := Pg0.cell 2
      have c21_Pg0_3 := Pg0.cell 3
      have c21_Pg0_4 := Pg0.cell 4
      have c21_Pg0_5 := Pg0.cell 5
      have c21_Ph0_0 := Ph0.cell 0
      have c21_Ph0_1 := Ph0.cell 1
      have c21_Ph0_2 := Ph0.cell 2
      have c21_Ph0_3 := Ph0.cell 3
      have c21_Ph0_4 := Ph0.cell 4
      have c21_Ph0_5 := Ph0.cell 5
      have lt21_Pw0 := Pw0.lt
      have lt21_Pg0 := Pg0.lt
      have lt21_Ph0 := Ph0.lt
      go_wp2_with fail
      refine (heldCrewTold_any lg0 _ fg0 _ (1) (1 + r0.cntTop) _ (by omega) Og0.out Ng0.out.lt Kg0.out (by omega)).mono ?_
      rintro e u22 ⟨rfl, hb22⟩
      clear c21_Pw0_0 c21_Pw0_1 c21_Pw0_2 c21_Pw0_3 c21_Pw0_4 c21_Pw0_5 c21_Pg0_0 c21_Pg0_1 c21_Pg0_2 c21_Pg0_3 c21_Pg0_4 c21_Pg0_5 c21_Ph0_0 c21_Ph0_1 c21_Ph0_2 c21_Ph0_3 c21_Ph0_4 c21_Ph0_5 lt21_Pw0 lt21_Pg0 lt21_Ph0
      have S22 := hide (show u21.heap.size ≤ u22.heap.size from by have := hb22.size; simpa only [World.size_alloc, size_setRow] using this)
      have B22 := hide (B21.out.trans (hb22.mono B21.out.size))
      have Pw0 := Pw0.below hb22 Pw0.lt
      have Pg0 := Pg0.below hb22 Pg0.lt
      have Ph0 := Ph0.below hb22 Ph0.lt
      have Ow0 := hide (Ow0.out.below hb22 Nw0.out.lt)
      have Nw0 := hide (Nw0.out.below hb22 Nw0.out.lt)
      have Og0 := hide (Og0.out.below hb22 Ng0.out.lt)
      have Ng0 := hide (Ng0.out.below hb22 Ng0.out.lt)
      have Oh0 := hide (Oh0.out.below hb22 Nh0.out.lt)
      have Nh0 := hide (Nh0.out.below hb22 Nh0.out.lt)
      clear hb22
      have c22_Pw0_0 := Pw0.cell 0
      have c22_Pw0_1 := Pw0.cell 1
      have c22_Pw0_2 := Pw0.cell 2
      have c22_Pw0_3 := Pw0.cell 3
      have c22_Pw0_4 := Pw0.cell 4
      have c22_Pw0_5 := Pw0.cell 5
      have c22_Pg0_0 := Pg0.cell 0
      have c22_Pg0_1 := Pg0.cell 1
      have c22_Pg0_2 := Pg0.cell 2
      have c22_Pg0_3 := Pg0.cell 3
      have c22_Pg0_4 := Pg0.cell 4
      have c22_Pg0_5 := Pg0.cell 5
      have c22_Ph0_0 := Ph0.cell 0
      have c22_Ph0_1 := Ph0.cell 1
      have c22_Ph0_2 := Ph0.cell 2
      have c22_Ph0_3 := Ph0.cell 3
      have c22_Ph0_4 := Ph0.cell 4
      have c22_Ph0_5 := Ph0.cell 5
      have lt22_Pw0 := Pw0.lt
      have lt22_Pg0 := Pg0.lt
      have lt22_Ph0 := Ph0.lt
      go_wp2_with fail
      go_ret
      exact ⟨rfl, B22.out⟩
    · rw [szr_no hbk0]
      go_wp2
      go_ret
      exact ⟨rfl, B1.out⟩
  · have hz3' : (1048576 : Int) < x3.length := by omega
    go_enter Try.func7, Try.ntmps7
    go_wp2
    go_ret
    exact ⟨rfl, B0.out⟩
end Go.Proofs.Ytpkjjfnfolbcoaa
