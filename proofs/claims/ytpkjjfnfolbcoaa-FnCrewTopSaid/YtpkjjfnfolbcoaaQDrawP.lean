/-
  The draws of the reference: picks, and all that a play of a crew wants.
-/
import Derived.OwnWalk
import Derived.Test.YtpkjjfnfolbcoaaQDrawJ
set_option linter.unusedVariables false
set_option linter.unusedSimpArgs false
namespace Go.Proofs.Ytpkjjfnfolbcoaa
open Go.ChangeShapes Go.WideShapes Go.ChangeAt Go.RowKit

def pickV (a b : Int) (r : Nat) : Int := if r = 0 then a else if r = 1 then b else if r = 2 then 0 else 4611686018427387904
theorem pickV_bd {a b : Int} (r : Nat) (ha : -100 ≤ a ∧ a ≤ 100) (hb : -100 ≤ b ∧ b ≤ 100) : -100 ≤ pickV a b r ∧ pickV a b r ≤ 4611686018427387904 := by
  unfold pickV
  repeat' split
  all_goals omega
theorem pickV_at (a b : Int) (r : Nat) (h : r < 4) : ([.int .i64 a, .int .i64 b, .int .i64 0, .int .i64 4611686018427387904] : List Value)[r]? = some (.int .i64 (pickV a b r)) := by
  obtain rfl | rfl | rfl | rfl : r = 0 ∨ r = 1 ∨ r = 2 ∨ r = 3 := by omega
  all_goals rfl
theorem results_tmp5 {fn : Func} {t u v x y : Tmp} (h : fn.results = #[.tmp t, .tmp u, .tmp v, .tmp x, .tmp y]) (tmps : Array Value) (P : Program) (w : World) :
    (results fn tmps).run P w = .ok (.tuple #[tmps.getD t undef, tmps.getD u undef, tmps.getD v undef, tmps.getD x undef, tmps.getD y undef]) w := by
  simp [results, h]
def PicksOut (w : World) (g : Nat) (L : List UInt8) (k : Nat) (e : Ending) (w' : World) : Prop :=
  ∃ (v : Value) (l : List Int) (fq : List Nat) (k' : Nat), e = .returned v ∧ Ow w' (.s 1 l.length (l.flatMap intC)) v fq ∧ New w' fq w.heap.size ∧ l.length ≤ 2001 ∧ k' ≤ k + 10000 ∧ RdD w' g L k' ∧ w.grownBy w' (some g)
/-- the picks so far -/
structure PicksAt (w wr : World) (g : Nat) (L : List UInt8) (k : Nat) (v : Value) (l : List Int) (us : List Value) : Prop where
  own : OwS wr w.heap.size 3 1 intC v l us []
  rd : RdD wr g L k
  gr : w.grownBy wr (some g)
theorem PicksAt.pick {w wr w' : World} {g : Nat} {L : List UInt8} {k k' : Nat} {v : Value} {l : List Int} {us : List Value} (h : PicksAt w wr g L k v l us) (hlg : g < w.heap.size) (hr : RdD w' g L k') (hg : wr.grownBy w' (some g)) : PicksAt w w' g L k' v l us :=
  ⟨h.own.kept hg (fun x e => by injection e with e; subst e; exact ⟨h.own.nlow hlg, h.own.low hlg⟩), hr, only_trans h.gr hg⟩
theorem PicksAt.step {w wr w' : World} {g : Nat} {L : List UInt8} {k : Nat} {v : Value} {l : List Int} {us : List Value} (h : PicksAt w wr g L k v l us) (hb : Below wr.heap.size wr w') : PicksAt w w' g L k v l us :=
  ⟨h.own.below (C := 0) hb, h.rd.below hb, only_trans h.gr (grownBy_below hb (some g))⟩
theorem PicksAt.alloc {w wr : World} {g : Nat} {L : List UInt8} {k : Nat} {v : Value} {l : List Int} {us : List Value} (h : PicksAt w wr g L k v l us) (o : Obj) : PicksAt w (wr.alloc o) g L k v l us := h.step ((Below.refl _ _).alloc (Nat.le_refl _) o)
/-- a pick more -/
theorem PicksAt.grow {w wr w' : World} {g : Nat} {L : List UInt8} {k : Nat} {v v' : Value} {l l' : List Int} {us us' : List Value} (h : PicksAt w wr g L k v l us) (hlg : g < w.heap.size) (hg : GB wr w' v v') (hn : OwS w' w.heap.size 3 1 intC v' l' us' []) : PicksAt w w' g L k v' l' us' :=
  have hb : Below w.heap.size wr w' := hg.toBelow h.gr.size (fun x e => h.own.from e)
  ⟨hn, h.rd.low hb hlg, only_lowJ h.gr hb (Nat.le_refl _)⟩
theorem PicksAt.out {w wr : World} {g : Nat} {L : List UInt8} {k k' : Nat} {v : Value} {l : List Int} {us : List Value} (h : PicksAt w wr g L k' v l us) (hl : l.length ≤ 2001) (hk : k' ≤ k + 10000) : PicksOut w g L k (.returned v) wr := by
  obtain ⟨fp, ho, hn⟩ := h.own.toOw
  exact ⟨v, l, fp, k', rfl, ho, hn, hl, hk, h.rd, h.gr⟩
set_option maxRecDepth 100000 in
set_option maxHeartbeats 2000000 in
theorem l54Picks_any {L : List UInt8} {k g : Nat} {w : World} (h : RdD w g L k) (hk : k ≤ 100000) :
    Calls Try.prog 93 #[.pointer (some ⟨g, 0, none⟩)] w (PicksOut w g L k) := by
  have hlg := h.lt
  have HB0 := hide (show Below w.heap.size w (w.alloc (.cells #[] 3)) from (Below.refl _ _).alloc (Nat.le_refl _) _)
  have HJ0 := hide (show PicksAt w (w.alloc (.cells #[] 3)) g L k (.slice (some ⟨w.heap.size, 0, none⟩) 0 0) [] [] from ⟨OwS.emptyJ w _ _ _, h.below HB0.out, grownBy_below HB0.out (some g)⟩)
  have HP := hide (pick_any HJ0.out.rd (n := 40) (by omega) (by omega) (by omega))
  clear h
  go_enter Try.func93, Try.ntmps93
  go_wp2_with fail
  refine HP.out.mono ?_
  rintro e w2 ⟨n0, rfl, hn0, h2, hg2⟩
  have HJ2 := hide (HJ0.out.pick hlg h2 hg2)
  clear h2 hg2 HP HJ0 HB0
  have HP := hide (pick_any HJ2.out.rd (n := 24) (by omega) (by omega) (by omega))
  go_wp2_with fail
  refine HP.out.mono ?_
  rintro e w3 ⟨r, rfl, hr, h3, hg3⟩
  have HJ3 := hide (HJ2.out.pick hlg h3 hg3)
  clear h3 hg3 HP HJ2
  by_cases r0 : r = 0
  · subst r0
    have HP := hide (pick_any HJ3.out.rd (n := 2) (by omega) (by omega) (by omega))
    go_wp2_with fail
    refine HP.out.mono ?_
    rintro e w4 ⟨q, rfl, hq, h4, hg4⟩
    have HJN := hide (HJ3.out.pick hlg h4 hg4)
    obtain ⟨n, hnq⟩ : ∃ n : Nat, (2000 : Int) + (q : Int) = (n : Int) := ⟨2000 + q, by omega⟩
    have hn61 : n ≤ 2001 := by omega
    clear h4 hg4 HJ3
    clear HP
    go_wp2
    (try simp only [hrb])
    go_loopw [3, 5] (fun jv iv wr => ∃ (i : Nat) (l : List Int) (us : List Value) (k' : Nat), iv = .int .i64 (i : Int) ∧ i ≤ n ∧ l.length = i ∧ k' ≤ k + 3 + 3 * i ∧ PicksAt w wr g L k' jv l us) (fun _ iv _ => n - (intOf iv).toNat)
    case atStart => exact ⟨0, [], [], _, rfl, by omega, rfl, by omega, HJN.out⟩
    case round =>
      obtain ⟨wb, rfl⟩ : ∃ W, W = wr := ⟨_, rfl⟩
      obtain ⟨jv, rfl⟩ : ∃ V, V = u3 := ⟨_, rfl⟩
      obtain ⟨i, l, us, k2, rfl, hin, hli, hk2, hj⟩ := hrel
      have HJ := hide hj
      have HLI := hide hli
      clear hj hli HJN
      by_cases hlt : i < n
      · have hltI : (i : Int) < (n : Int) := by omega
        have HP := hide (pick_any HJ.out.rd (n := 9) (by omega) (by omega) (by omega))
        go_wp2_with fail
        refine HP.out.mono ?_
        rintro e w6 ⟨r1, rfl, hr1, h6, hg6⟩
        have HJ6 := hide (HJ.out.pick hlg h6 hg6)
        clear h6 hg6 HP HJ
        have HP := hide (pick_any HJ6.out.rd (n := 100) (by omega) (by omega) (by omega))
        go_wp2_with fail
        refine HP.out.mono ?_
        rintro e w7 ⟨r2, rfl, hr2, h7, hg7⟩
        have HJ7 := hide (HJ6.out.pick hlg h7 hg7)
        clear h7 hg7 HP HJ6
        have HJ8 := hide (HJ7.out.alloc (.cells #[.int .i64 (r1 : Int), .int .i64 ((r2 : Int) - 50), .int .i64 0, .int .i64 4611686018427387904] 3))
        have HL8 := hide (show Row (w7.alloc (.cells #[.int .i64 (r1 : Int), .int .i64 ((r2 : Int) - 50), .int .i64 0, .int .i64 4611686018427387904] 3)) w7.heap.size 3 [.int .i64 (r1 : Int), .int .i64 ((r2 : Int) - 50), .int .i64 0, .int .i64 4611686018427387904] from Row.new w7 _ _)
        have hg7 : g < w7.heap.size := HJ7.out.rd.lt
        have HP := hide (pick_any HJ8.out.rd (n := 4) (by omega) (by omega) (by omega))
        clear HJ7
        have s1 : IntKind.i64.wrap ((r2 : Int) - 50) = (r2 : Int) - 50 := wrapI _ (by omega) (by omega)
        have s2 : wrap64 ((r2 : Int) - 50) = (r2 : Int) - 50 := by unfold wrap64; omega
        go_wp2_with fail
        refine HP.out.mono ?_
        rintro e w9 ⟨r3, rfl, hr3, h9, hg9⟩
        have HJ9 := hide (HJ8.out.pick hlg h9 hg9)
        have HL9 := hide (HL8.out.grown hg9 (fun e => by injection e with e; omega))
        clear h9 hg9 HP HJ8 HL8
        have c3 : w9.cell? ⟨w7.heap.size, r3, none⟩ = some (.int .i64 (pickV (r1 : Int) ((r2 : Int) - 50) r3)) := (HL9.out.cell r3).trans (pickV_at _ _ _ hr3)
        have l3 := HL9.out.lt
        have hr3I : (r3 : Int) < 4 := by omega
        have hr30 : (0 : Int) ≤ (r3 : Int) := by omega
        have hyb := pickV_bd (a := (r1 : Int)) (b := (r2 : Int) - 50) r3 (by omega) (by omega)
        obtain ⟨ii, hii, ii0, ii1, ii2⟩ := info_parts info_int
        generalize pickV (r1 : Int) ((r2 : Int) - 50) r3 = y at *
        have HAa := hide (HJ9.out.alloc (.cells #[.int .i64 y] 3))
        have HXO := hide (fun (W : World) => show OwC W ([y].flatMap intC) [.int .i64 y] [] from ⟨[], [], ⟨rfl, WalkArith.wf_i64 ⟨by omega, by omega⟩, rfl⟩, rfl, rfl⟩)
        have HSA := hide (show w.heap.size ≤ (w9.alloc (.cells #[.int .i64 y] 3)).heap.size from by rw [World.size_alloc]; have := HJ9.out.gr.size; omega)
        have hll : l.length ≤ 2001 := by have := HLI.out; omega
        clear HJ9 HL9
        go_wp2_with (first | (at_builtin; refine wpl_app rfl _ _ 22 rfl ii _ 8 Try.underlying22 hii ii0 ii1 ii2 rfl (by decide) intC_len rfl HAa.out.own [y] (HXO.out _) (by exact New.nil _ _) (fun g _ hg => by cases hg) _ 1 1 rfl rfl (SrcAt.new w9 _ _ _ _) (by omega) (by decide) HSA.out ?_; intro A5 n5 c5 w11 hn5 hown5 hgb5; have HGB := hide hgb5; have HN5 := hide hown5; clear hown5 hgb5 hn5) | fail)
        go_roundw
        case rel =>
          have q2 : (l ++ [y]).length = i + 1 := by rw [List.length_append, List.length_singleton, HLI.out]
          have q5 := HAa.out.grow hlg HGB.out HN5.out
          first | exact ⟨i + 1, l ++ [y], _, _, by go_num, by omega, q2, by omega, q5⟩ | (refine ⟨_, _, _, _, _, _, _, _, _, _, _, _, _, _, _, _, _, _, _, _, _, _, _, _, _, _, _, _, _, _, ⟨i + 1, l ++ [y], _, _, ?_, by omega, q2, by omega, q5⟩, rfl⟩ <;> first | rfl | go_num | omega)
        case measure => simp [intOf]; omega
      · obtain rfl : i = n := by omega
        go_wp2
        go_ret
        exact HJ.out.out (by have := HLI.out; omega) (by omega)
  · have r0I : ¬ ((r : Int) = 0) := by omega
    have hrb : ((r : Int) == 0) = false := by simpa using r0I
    obtain ⟨n, rfl⟩ : ∃ n, n = n0 := ⟨_, rfl⟩
    have hn61 : n ≤ 2001 := by omega
    have HJN := HJ3
    have HP := True.intro
    clear HP
    go_wp2
    (try simp only [hrb])
    go_loopw [3, 5] (fun jv iv wr => ∃ (i : Nat) (l : List Int) (us : List Value) (k' : Nat), iv = .int .i64 (i : Int) ∧ i ≤ n ∧ l.length = i ∧ k' ≤ k + 3 + 3 * i ∧ PicksAt w wr g L k' jv l us) (fun _ iv _ => n - (intOf iv).toNat)
    case atStart => exact ⟨0, [], [], _, rfl, by omega, rfl, by omega, HJN.out⟩
    case round =>
      obtain ⟨wb, rfl⟩ : ∃ W, W = wr := ⟨_, rfl⟩
      obtain ⟨jv, rfl⟩ : ∃ V, V = u3 := ⟨_, rfl⟩
      obtain ⟨i, l, us, k2, rfl, hin, hli, hk2, hj⟩ := hrel
      have HJ := hide hj
      have HLI := hide hli
      clear hj hli HJN
      by_cases hlt : i < n
      · have hltI : (i : Int) < (n : Int) := by omega
        have HP := hide (pick_any HJ.out.rd (n := 9) (by omega) (by omega) (by omega))
        go_wp2_with fail
        refine HP.out.mono ?_
        rintro e w6 ⟨r1, rfl, hr1, h6, hg6⟩
        have HJ6 := hide (HJ.out.pick hlg h6 hg6)
        clear h6 hg6 HP HJ
        have HP := hide (pick_any HJ6.out.rd (n := 100) (by omega) (by omega) (by omega))
        go_wp2_with fail
        refine HP.out.mono ?_
        rintro e w7 ⟨r2, rfl, hr2, h7, hg7⟩
        have HJ7 := hide (HJ6.out.pick hlg h7 hg7)
        clear h7 hg7 HP HJ6
        have HJ8 := hide (HJ7.out.alloc (.cells #[.int .i64 (r1 : Int), .int .i64 ((r2 : Int) - 50), .int .i64 0, .int .i64 4611686018427387904] 3))
        have HL8 := hide (show Row (w7.alloc (.cells #[.int .i64 (r1 : Int), .int .i64 ((r2 : Int) - 50), .int .i64 0, .int .i64 4611686018427387904] 3)) w7.heap.size 3 [.int .i64 (r1 : Int), .int .i64 ((r2 : Int) - 50), .int .i64 0, .int .i64 4611686018427387904] from Row.new w7 _ _)
        have hg7 : g < w7.heap.size := HJ7.out.rd.lt
        have HP := hide (pick_any HJ8.out.rd (n := 4) (by omega) (by omega) (by omega))
        clear HJ7
        have s1 : IntKind.i64.wrap ((r2 : Int) - 50) = (r2 : Int) - 50 := wrapI _ (by omega) (by omega)
        have s2 : wrap64 ((r2 : Int) - 50) = (r2 : Int) - 50 := by unfold wrap64; omega
        go_wp2_with fail
        refine HP.out.mono ?_
        rintro e w9 ⟨r3, rfl, hr3, h9, hg9⟩
        have HJ9 := hide (HJ8.out.pick hlg h9 hg9)
        have HL9 := hide (HL8.out.grown hg9 (fun e => by injection e with e; omega))
        clear h9 hg9 HP HJ8 HL8
        have c3 : w9.cell? ⟨w7.heap.size, r3, none⟩ = some (.int .i64 (pickV (r1 : Int) ((r2 : Int) - 50) r3)) := (HL9.out.cell r3).trans (pickV_at _ _ _ hr3)
        have l3 := HL9.out.lt
        have hr3I : (r3 : Int) < 4 := by omega
        have hr30 : (0 : Int) ≤ (r3 : Int) := by omega
        have hyb := pickV_bd (a := (r1 : Int)) (b := (r2 : Int) - 50) r3 (by omega) (by omega)
        obtain ⟨ii, hii, ii0, ii1, ii2⟩ := info_parts info_int
        generalize pickV (r1 : Int) ((r2 : Int) - 50) r3 = y at *
        have HAa := hide (HJ9.out.alloc (.cells #[.int .i64 y] 3))
        have HXO := hide (fun (W : World) => show OwC W ([y].flatMap intC) [.int .i64 y] [] from ⟨[], [], ⟨rfl, WalkArith.wf_i64 ⟨by omega, by omega⟩, rfl⟩, rfl, rfl⟩)
        have HSA := hide (show w.heap.size ≤ (w9.alloc (.cells #[.int .i64 y] 3)).heap.size from by rw [World.size_alloc]; have := HJ9.out.gr.size; omega)
        have hll : l.length ≤ 2001 := by have := HLI.out; omega
        clear HJ9 HL9
        go_wp2_with (first | (at_builtin; refine wpl_app rfl _ _ 22 rfl ii _ 8 Try.underlying22 hii ii0 ii1 ii2 rfl (by decide) intC_len rfl HAa.out.own [y] (HXO.out _) (by exact New.nil _ _) (fun g _ hg => by cases hg) _ 1 1 rfl rfl (SrcAt.new w9 _ _ _ _) (by omega) (by decide) HSA.out ?_; intro A5 n5 c5 w11 hn5 hown5 hgb5; have HGB := hide hgb5; have HN5 := hide hown5; clear hown5 hgb5 hn5) | fail)
        go_roundw
        case rel =>
          have q2 : (l ++ [y]).length = i + 1 := by rw [List.length_append, List.length_singleton, HLI.out]
          have q5 := HAa.out.grow hlg HGB.out HN5.out
          first | exact ⟨i + 1, l ++ [y], _, _, by go_num, by omega, q2, by omega, q5⟩ | (refine ⟨_, _, _, _, _, _, _, _, _, _, _, _, _, _, _, _, _, _, _, _, _, _, _, _, _, _, _, _, _, _, ⟨i + 1, l ++ [y], _, _, ?_, by omega, q2, by omega, q5⟩, rfl⟩ <;> first | rfl | go_num | omega)
        case measure => simp [intOf]; omega
      · obtain rfl : i = n := by omega
        go_wp2
        go_ret
        exact HJ.out.out (by have := HLI.out; omega) (by omega)
def DrawPlayOut (w : World) (e : Ending) (w' : World) : Prop :=
  ∃ (v v3 : Value) (l : List CrewJob) (ps : List Int) (fq fp : List Nat) (b c cn : Int), e = .returned (.tuple #[v, .int .i64 b, .int .i64 c, v3, .int .i64 cn]) ∧ Ow w' (.s 2 l.length (l.flatMap CrewJob.cells)) v fq ∧ New w' fq w.heap.size ∧ CrewJob.bulkL l ≤ 10000 ∧ Ow w' (.s 1 ps.length (ps.flatMap intC)) v3 fp ∧ New w' fp w.heap.size ∧ ps.length ≤ 2001 ∧ (0 ≤ b ∧ b ≤ 100) ∧ (0 ≤ c ∧ c ≤ 100) ∧ (-1 ≤ cn ∧ cn ≤ 1000) ∧ Below w.heap.size w w'
set_option maxRecDepth 100000 in
set_option maxHeartbeats 2000000 in
theorem drawCrewPlay_any (b : List UInt8) (A : Option Addr) (n c : Nat) (fp : List Nat) (w : World) (ho : Ow w (.s 1 b.length (b.flatMap byteC)) (.slice A n c) fp) (hf : Lt fp w.heap.size) (hsz : b.length ≤ 1048576) :
    Calls Try.prog 43 #[.slice A n c] w (DrawPlayOut w) := by
  have HO := hide (open_any b A n c fp w ho hf hsz)
  clear ho
  go_enter Try.func43, Try.ntmps43
  go_wp2_with fail
  refine HO.out.mono ?_
  rintro e w2 ⟨L, rfl, hr, hb2⟩
  have HJ := hide (l54Jobs_any hr (by omega))
  have HB2 := hide hb2
  have hlr := hr.lt
  clear hr hb2 HO
  go_wp2_with fail
  refine HJ.out.mono ?_
  rintro e w3 ⟨v, l, fq, k3, rfl, ho3, hn3, hbk, hk3, hr3, hg3⟩
  have HO3 := hide ho3
  have HN3 := hide hn3
  have HG3 := hide hg3
  have H3 := hide hr3
  have HBK := hide hbk
  clear ho3 hn3 hg3 hr3 HJ hbk
  have HP := hide (pick_any H3.out (n := 4) (by omega) (by omega) (by omega))
  go_wp2_with fail
  refine HP.out.mono ?_
  rintro e w4 ⟨q1, rfl, hq1, h4, hg4⟩
  have HG4 := hide (only_trans HG3.out hg4)
  have HO4 := hide (HO3.out.grown hg4 HN3.out.lt (HN3.out.out hlr))
  have HN4 := hide (HN3.out.grown hg4 (fun b e => by injection e with e; subst e; exact HN3.out.out hlr))
  have H4 := hide h4
  clear h4 hg4 HP HG3 HO3 HN3 H3
  have HP := hide (pick_any H4.out (n := 5) (by omega) (by omega) (by omega))
  go_wp2_with fail
  refine HP.out.mono ?_
  rintro e w5 ⟨q2, rfl, hq2, h5, hg5⟩
  have HG5 := hide (only_trans HG4.out hg5)
  have HO5 := hide (HO4.out.grown hg5 HN4.out.lt (HN4.out.out hlr))
  have HN5 := hide (HN4.out.grown hg5 (fun b e => by injection e with e; subst e; exact HN4.out.out hlr))
  have H5 := hide h5
  clear h5 hg5 HP HG4 HO4 HN4 H4
  have HP := hide (pick_any H5.out (n := 16) (by omega) (by omega) (by omega))
  go_wp2_with fail
  refine HP.out.mono ?_
  rintro e w6 ⟨r, rfl, hr, h6, hg6⟩
  have HG6 := hide (only_trans HG5.out hg6)
  have HO6 := hide (HO5.out.grown hg6 HN5.out.lt (HN5.out.out hlr))
  have HN6 := hide (HN5.out.grown hg6 (fun b e => by injection e with e; subst e; exact HN5.out.out hlr))
  have H6 := hide h6
  clear h6 hg6 HP HG5 HO5 HN5 H5
  by_cases r0 : r = 0
  · subst r0
    have HP := hide (pick_any H6.out (n := 10) (by omega) (by omega) (by omega))
    go_wp2_with fail
    refine HP.out.mono ?_
    rintro e w7 ⟨q5, rfl, hq5, h7, hg7⟩
    have HG7 := hide (only_trans HG6.out hg7)
    have HO7 := hide (HO6.out.grown hg7 HN6.out.lt (HN6.out.out hlr))
    have HN7 := hide (HN6.out.grown hg7 (fun b e => by injection e with e; subst e; exact HN6.out.out hlr))
    have H7 := hide h7
    clear h7 hg7 HP HG6 HO6 HN6 H6
    have HP := hide (pick_any H7.out (n := 18) (by omega) (by omega) (by omega))
    go_wp2_with fail
    refine HP.out.mono ?_
    rintro e w8 ⟨q6, rfl, hq6, h8, hg8⟩
    have HG8 := hide (only_trans HG7.out hg8)
    have HO8 := hide (HO7.out.grown hg8 HN7.out.lt (HN7.out.out hlr))
    have HN8 := hide (HN7.out.grown hg8 (fun b e => by injection e with e; subst e; exact HN7.out.out hlr))
    have H8 := hide h8
    clear h8 hg8 HP HG7 HO7 HN7 H7
    have HP := hide (pick_any H8.out (n := 3) (by omega) (by omega) (by omega))
    go_wp2_with fail
    refine HP.out.mono ?_
    rintro e w20 ⟨q3, rfl, hq3, h20, hg20⟩
    have HG20 := hide (only_trans HG8.out hg20)
    have HO20 := hide (HO8.out.grown hg20 HN8.out.lt (HN8.out.out hlr))
    have HN20 := hide (HN8.out.grown hg20 (fun b e => by injection e with e; subst e; exact HN8.out.out hlr))
    have H20 := hide h20
    clear h20 hg20 HP HG8 HO8 HN8 H8
    by_cases q30 : q3 = 0
    · subst q30
      have HP := hide (pick_any H20.out (n := 120) (by omega) (by omega) (by omega))
      go_wp2_with fail
      refine HP.out.mono ?_
      rintro e w21 ⟨q4, rfl, hq4, h21, hg21⟩
      have HG21 := hide (only_trans HG20.out hg21)
      have HO21 := hide (HO20.out.grown hg21 HN20.out.lt (HN20.out.out hlr))
      have HN21 := hide (HN20.out.grown hg21 (fun b e => by injection e with e; subst e; exact HN20.out.out hlr))
      have H21 := hide h21
      clear h21 hg21 HP HG20 HO20 HN20 H20
      have HPK := hide (l54Picks_any H21.out (by omega))
      go_wp2_with fail
      refine HPK.out.mono ?_
      rintro e wz ⟨v3, ps, fz, kz, rfl, oz, nz, hlz, -, -, gz⟩
      have HGZ := hide (only_trans HG21.out gz)
      have HOZ := hide (HO21.out.grown gz HN21.out.lt (HN21.out.out hlr))
      have HNZ := hide (HN21.out.grown gz (fun b e => by injection e with e; subst e; exact HN21.out.out hlr))
      have HPO := hide oz
      have HPN := hide nz
      have HSZ := hide HG21.out.size
      clear oz nz gz HPK HG21 HO21 HN21 H21
      go_wp2
      (try simp only [Exit.inBlock, Exit.then])
      refine bodyPost_ret (results_tmp5 rfl _ _ _) rfl ?_
      exact ⟨v, v3, l, ps, fq, fz, (q5 : Int), (q6 : Int), (q4 : Int), rfl, HOZ.out, HNZ.out.mono HB2.out.size, HBK.out, HPO.out, HPN.out.mono (Nat.le_trans HB2.out.size HSZ.out), hlz, by omega, by omega, by omega, HB2.out.trans (below_of_grown HGZ.out (Nat.le_refl _) HB2.out.size)⟩
    · have q3I : ¬ ((q3 : Int) = 0) := by omega
      have HPK := hide (l54Picks_any H20.out (by omega))
      go_wp2_with fail
      refine HPK.out.mono ?_
      rintro e wz ⟨v3, ps, fz, kz, rfl, oz, nz, hlz, -, -, gz⟩
      have HGZ := hide (only_trans HG20.out gz)
      have HOZ := hide (HO20.out.grown gz HN20.out.lt (HN20.out.out hlr))
      have HNZ := hide (HN20.out.grown gz (fun b e => by injection e with e; subst e; exact HN20.out.out hlr))
      have HPO := hide oz
      have HPN := hide nz
      have HSZ := hide HG20.out.size
      clear oz nz gz HPK HG20 HO20 HN20 H20
      go_wp2
      (try simp only [Exit.inBlock, Exit.then])
      refine bodyPost_ret (results_tmp5 rfl _ _ _) rfl ?_
      exact ⟨v, v3, l, ps, fq, fz, (q5 : Int), (q6 : Int), (-1), rfl, HOZ.out, HNZ.out.mono HB2.out.size, HBK.out, HPO.out, HPN.out.mono (Nat.le_trans HB2.out.size HSZ.out), hlz, by omega, by omega, by omega, HB2.out.trans (below_of_grown HGZ.out (Nat.le_refl _) HB2.out.size)⟩
  · have r0I : ¬ ((r : Int) = 0) := by omega
    have HP := hide (pick_any H6.out (n := 3) (by omega) (by omega) (by omega))
    go_wp2_with fail
    refine HP.out.mono ?_
    rintro e w20 ⟨q3, rfl, hq3, h20, hg20⟩
    have HG20 := hide (only_trans HG6.out hg20)
    have HO20 := hide (HO6.out.grown hg20 HN6.out.lt (HN6.out.out hlr))
    have HN20 := hide (HN6.out.grown hg20 (fun b e => by injection e with e; subst e; exact HN6.out.out hlr))
    have H20 := hide h20
    clear h20 hg20 HP HG6 HO6 HN6 H6
    by_cases q30 : q3 = 0
    · subst q30
      have HP := hide (pick_any H20.out (n := 120) (by omega) (by omega) (by omega))
      go_wp2_with fail
      refine HP.out.mono ?_
      rintro e w21 ⟨q4, rfl, hq4, h21, hg21⟩
      have HG21 := hide (only_trans HG20.out hg21)
      have HO21 := hide (HO20.out.grown hg21 HN20.out.lt (HN20.out.out hlr))
      have HN21 := hide (HN20.out.grown hg21 (fun b e => by injection e with e; subst e; exact HN20.out.out hlr))
      have H21 := hide h21
      clear h21 hg21 HP HG20 HO20 HN20 H20
      have HPK := hide (l54Picks_any H21.out (by omega))
      go_wp2_with fail
      refine HPK.out.mono ?_
      rintro e wz ⟨v3, ps, fz, kz, rfl, oz, nz, hlz, -, -, gz⟩
      have HGZ := hide (only_trans HG21.out gz)
      have HOZ := hide (HO21.out.grown gz HN21.out.lt (HN21.out.out hlr))
      have HNZ := hide (HN21.out.grown gz (fun b e => by injection e with e; subst e; exact HN21.out.out hlr))
      have HPO := hide oz
      have HPN := hide nz
      have HSZ := hide HG21.out.size
      clear oz nz gz HPK HG21 HO21 HN21 H21
      go_wp2
      (try simp only [Exit.inBlock, Exit.then])
      refine bodyPost_ret (results_tmp5 rfl _ _ _) rfl ?_
      exact ⟨v, v3, l, ps, fq, fz, 1 + (q1 : Int), 1 + (q2 : Int), (q4 : Int), rfl, HOZ.out, HNZ.out.mono HB2.out.size, HBK.out, HPO.out, HPN.out.mono (Nat.le_trans HB2.out.size HSZ.out), hlz, by omega, by omega, by omega, HB2.out.trans (below_of_grown HGZ.out (Nat.le_refl _) HB2.out.size)⟩
    · have q3I : ¬ ((q3 : Int) = 0) := by omega
      have HPK := hide (l54Picks_any H20.out (by omega))
      go_wp2_with fail
      refine HPK.out.mono ?_
      rintro e wz ⟨v3, ps, fz, kz, rfl, oz, nz, hlz, -, -, gz⟩
      have HGZ := hide (only_trans HG20.out gz)
      have HOZ := hide (HO20.out.grown gz HN20.out.lt (HN20.out.out hlr))
      have HNZ := hide (HN20.out.grown gz (fun b e => by injection e with e; subst e; exact HN20.out.out hlr))
      have HPO := hide oz
      have HPN := hide nz
      have HSZ := hide HG20.out.size
      clear oz nz gz HPK HG20 HO20 HN20 H20
      go_wp2
      (try simp only [Exit.inBlock, Exit.then])
      refine bodyPost_ret (results_tmp5 rfl _ _ _) rfl ?_
      exact ⟨v, v3, l, ps, fq, fz, 1 + (q1 : Int), 1 + (q2 : Int), (-1), rfl, HOZ.out, HNZ.out.mono HB2.out.size, HBK.out, HPO.out, HPN.out.mono (Nat.le_trans HB2.out.size HSZ.out), hlz, by omega, by omega, by omega, HB2.out.trans (below_of_grown HGZ.out (Nat.le_refl _) HB2.out.size)⟩
end Go.Proofs.Ytpkjjfnfolbcoaa
