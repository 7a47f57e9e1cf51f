/-
  The draws of the reference: records and their frames.
-/
import Derived.Test.YtbjblchhenmgjaaDrawL
import Derived.Deep.Cut
set_option linter.unusedVariables false
set_option linter.unusedSimpArgs false
namespace Go.Proofs.Ytbjblchhenmgjaa
open Go.ChangeShapes Go.WideShapes Go.ChangeAt Go.RowKit

theorem only_lowF {a w w' : World} {row : Option Nat} {B : Nat} (h : a.grownBy w row) (hb : Below B w w') (hB : a.heap.size ≤ B) : a.grownBy w' row :=
  ⟨hb.os.trans h.os, hb.tape.trans h.tape, hb.output.trans h.output, Nat.le_trans h.size hb.size, fun i hi hr => (hb.block i (Nat.lt_of_lt_of_le hi hB)).trans (h.block i hi hr)⟩
noncomputable def catF (l : List LogRecord) : ByteArray := l.foldl (fun o r => o ++ r.frame) .empty
theorem catF_snoc (l : List LogRecord) (x : LogRecord) : catF (l ++ [x]) = catF l ++ x.frame := by simp [catF, List.foldl_append]
theorem frame_ok {r : LogRecord} (h : r.ok) : r.frame = r.bytes := by unfold LogRecord.frame; rw [if_pos (tb_true h)]
theorem bytes_size (r : LogRecord) : r.bytes.size = 5 + r.data.size := by
  unfold LogRecord.bytes
  rw [ByteArray.size_append, size5]
theorem foldF_size : ∀ (l : List LogRecord) (o : ByteArray), (∀ x ∈ l, x.ok) → (l.foldl (fun o r => o ++ r.frame) o).size ≤ o.size + 2005 * l.length
  | [], o, _ => by simp
  | x :: l, o, h => by
    have hx := h x (by simp)
    have h1 := foldF_size l (o ++ x.frame) (fun y hy => h y (by simp [hy]))
    rw [ByteArray.size_append, frame_ok hx, bytes_size] at h1
    have := hx.2.2
    simp only [List.foldl_cons, List.length_cons]
    rw [frame_ok hx]
    omega
theorem catF_size (l : List LogRecord) (h : ∀ x ∈ l, x.ok) : (catF l).size ≤ 2005 * l.length := by
  have h1 := foldF_size l .empty h
  have e : (ByteArray.empty).size = 0 := rfl
  unfold catF
  omega
theorem lrInfo : (Try.prog.info? 59).map (fun i => (i.zero, i.size, i.bytes)) = some (some (.agg #[.int .i64 0, .string .empty]), 2, 24) := by kernel_rfl
theorem OwS.empty0 {α : Type} (w : World) (e : TypeId) (k : Nat) (f : α → List D) : OwS (w.alloc (.cells #[] e)) w.heap.size e k f (.slice (some ⟨w.heap.size, 0, none⟩) 0 0) [] [] [] :=
  ⟨World.ownsRow_made w #[] 0 (Nat.le_refl _) (by unfold maxLen; omega) (by simp), by simp [OwC], New.nil _ _, fun g h => by simp⟩
def DrawOutF (w : World) (g : Nat) (e : Ending) (w' : World) : Prop :=
  ∃ (v : Value) (l : List LogRecord) (fq : List Nat), e = .returned (.tuple #[v, .string (catF l)]) ∧ Ow w' (.s 2 l.length (l.flatMap LogRecord.cells)) v fq ∧ New w' fq w.heap.size ∧ (∀ x ∈ l, x.ok) ∧ l.length ≤ 5 ∧ w.grownBy w' (some g)
set_option maxRecDepth 100000 in
set_option maxHeartbeats 2000000 in
theorem l45Frames_any {L : List UInt8} {k g : Nat} {w : World} (h : RdD w g L k) (hk : k ≤ 1000) :
    Calls Try.prog 103 #[.pointer (some ⟨g, 0, none⟩)] w (DrawOutF w g) := by
  have hlg := h.lt
  have HOE := hide (OwS.empty0 w 59 2 LogRecord.cells)
  have HB0 := hide (show Below w.heap.size w (w.alloc (.cells #[] 59)) from (Below.refl _ _).alloc (Nat.le_refl _) _)
  have HP := hide (pick_any (h.below HB0.out) (n := 4) (by omega) (by omega) (by omega))
  clear h
  go_enter Try.func103, Try.ntmps103
  go_wp2_with fail
  refine HP.out.mono ?_
  rintro e w2 ⟨r, rfl, hr, h2, hg2⟩
  have HG2 := hide (only_trans (grownBy_below HB0.out (some g)) hg2)
  have HO2 := hide (HOE.out.kept hg2 (fun x e => by injection e with e; subst e; exact ⟨fun h => (by cases h), HOE.out.low hlg⟩))
  have HP2 := hide (pick_any h2 (n := 6) (by omega) (by omega) (by omega))
  clear h2 hg2 HP HOE HB0
  go_wp2_with fail
  refine HP2.out.mono ?_
  rintro e w3 ⟨n, rfl, hn, h3, hg3⟩
  have HG3 := hide (only_trans HG2.out hg3)
  have HO3 := hide (HO2.out.kept hg3 (fun x e => by injection e with e; subst e; exact ⟨fun h => (by cases h), HO2.out.low hlg⟩))
  have HR3 := hide h3
  clear h3 hg3 HP2 HO2 HG2
  go_wp2
  go_loopw [4, 5, 6, 7] (fun lv ov pv nv wr => ∃ (n : Nat) (l : List LogRecord) (us : List Value) (k' pos : Nat), ov = .string (catF l) ∧ pv = .int .i64 (pos : Int) ∧ nv = .int .i64 (n : Int) ∧ n + l.length ≤ 5 ∧ 1 ≤ pos ∧ pos ≤ 210001 + 300 * l.length ∧ k' ≤ 2000 + 10 * l.length ∧ (∀ x ∈ l, x.ok) ∧ OwS wr w.heap.size 59 2 LogRecord.cells lv l us [] ∧ RdD wr g L k' ∧ w.grownBy wr (some g)) (fun _ _ _ nv _ => (intOf nv).toNat)
  case atStart => exact ⟨n, [], [], _, 1 + r * 70000, rfl, by congr 1, rfl, by simp; omega, by omega, by omega, by omega, fun x hx => (by cases hx), HO3.out, HR3.out, HG3.out⟩
  case round =>
    obtain ⟨n, l, us, k', pos, rfl, rfl, rfl, hnl, hp1, hp2, hk', hok, how, hrd, hgr⟩ := hrel
    have HOW := hide how
    have HRD := hide hrd
    have HGR := hide hgr
    have HOK := hide hok
    have HNL := hide hnl
    have hll : l.length ≤ 5 := by omega
    have hcs := catF_size l hok
    clear how hrd hgr hok HO3 HR3 HG3
    by_cases hn0 : n = 0
    · subst hn0
      obtain ⟨fq, ho, hnw⟩ := HOW.out.toOw
      have HO := hide ho
      have HN := hide hnw
      clear ho hnw
      go_wp2
      go_ret2
      exact ⟨_, l, fq, rfl, HO.out, HN.out, HOK.out, hll, HGR.out⟩
    obtain ⟨n, rfl⟩ : ∃ n', n = n' + 1 := ⟨n - 1, by omega⟩
    have HD := hide (l45Data_any HRD.out (by omega) pos (by omega))
    clear hn0
    go_wp2_with fail
    refine HD.out.mono ?_
    rintro e w5 ⟨d, k5, rfl, hds, hk5, h5, hg5⟩
    have HG5 := hide (only_trans HGR.out hg5)
    have HO5 := hide (HOW.out.kept hg5 (fun x e => by injection e with e; subst e; exact ⟨fun h => (by cases h), HOW.out.low hlg⟩))
    have h5b : w.heap.size ≤ w5.heap.size := HG5.out.size
    have HR5 := hide h5
    clear h5 hg5 HD HRD HOW HGR
    go_upto_region 8 with fail
    generalize hw6 : World.alloc w5 _ = w6
    have hb6 : Below w5.heap.size w5 w6 := by rw [← hw6]; exact (Below.refl _ _).alloc (Nat.le_refl _) _
    have HX6 := hide (show Row w6 w5.heap.size 59 [.int .i64 (pos : Int), .string d] from by rw [← hw6]; exact Row.new w5 _ _)
    have HO6 := hide (HO5.out.below (C := 0) hb6)
    have HG6 := hide (only_trans HG5.out (grownBy_below hb6 (some g)))
    have HP1 := hide (pick_any (HR5.out.below hb6) (n := 2) (by omega) (by omega) (by omega))
    have hg5l : g < w5.heap.size := Nat.lt_of_lt_of_le hlg h5b
    have HLV := hide HO5.out.lt
    clear hw6 hb6 HO5 HG5 HR5
    go_wp2_with fail
    refine HP1.out.mono ?_
    rintro e w7 ⟨a, rfl, ha, h7, hg7⟩
    have HX7 := hide (HX6.out.grown hg7 (fun e => by injection e with e; omega))
    have HO7 := hide (HO6.out.kept hg7 (fun x e => by injection e with e; subst e; exact ⟨fun h => (by cases h), HO6.out.low hlg⟩))
    have HG7 := hide (only_trans HG6.out hg7)
    have HP2 := hide (pick_any h7 (n := 300) (by omega) (by omega) (by omega))
    clear h7 hg7 HP1 HX6 HO6 HG6
    go_wp2_with fail
    refine HP2.out.mono ?_
    rintro e w8 ⟨b, rfl, hb, h8, hg8⟩
    have HX8 := hide (HX7.out.grown hg8 (fun e => by injection e with e; omega))
    have HO8 := hide (HO7.out.kept hg8 (fun x e => by injection e with e; subst e; exact ⟨fun h => (by cases h), HO7.out.low hlg⟩))
    have HG8 := hide (only_trans HG7.out hg8)
    have HR8 := hide h8
    obtain ⟨p2, hp2e, hp2b⟩ : ∃ p2 : Nat, (a : Int) * (b : Int) = (p2 : Int) ∧ p2 ≤ 299 := by
      rcases (show a = 0 ∨ a = 1 by omega) with rfl | rfl
      · exact ⟨0, by simp, by omega⟩
      · exact ⟨b, by simp, by omega⟩
    obtain ⟨ia, hia, ia0, ia1, ia2⟩ := info_parts lrInfo
    have hrok : (LogRecord.mk (pos : Int) d).ok := ⟨by show (1 : Int) ≤ pos; omega, by show (pos : Int) ≤ 999999; omega, hds⟩
    have HRK := hide hrok
    have HXO := hide (fun (W : World) => show OwC W ([LogRecord.mk (pos : Int) d].flatMap LogRecord.cells) [.int .i64 (pos : Int), .string d] [] from by
      rw [List.flatMap_singleton]
      exact OwC.mLogRecord (x := ⟨(pos : Int), d⟩) (WalkArith.wf_i64 ⟨by show -9223372036854775808 ≤ (pos : Int); omega, by show (pos : Int) ≤ 9223372036854775807; omega⟩) (by show d.size ≤ maxLen; unfold maxLen; omega))
    have HA := hide (HO8.out.alloc (.cells #[.int .i64 (pos : Int), .string d] 59))
    have h8b : w.heap.size ≤ w8.heap.size := HG8.out.size
    have HSA := hide (show w.heap.size ≤ (w8.alloc (.cells #[.int .i64 (pos : Int), .string d] 59)).heap.size from by rw [World.size_alloc]; omega)
    have HLF := hide (fun (W : World) => specLogFrame_any (pos : Int) d W (by unfold maxLen; omega))
    have x0 := HX8.out.cell 0
    have x1 := HX8.out.cell 1
    have xl := HX8.out.lt
    clear h8 hg8 HP2 HX7 HO7 HG7 hrok
    go_wp2_with (first | (at_builtin; refine wpl_app rfl _ _ 53 rfl ia _ 24 Try.underlying53 hia ia0 ia1 ia2 rfl (by decide) LogRecord.cells_len rfl HA.out [LogRecord.mk (pos : Int) d] (HXO.out _) (by exact New.nil _ _) (fun g _ hg => by cases hg) _ 1 1 rfl rfl (SrcAt.new w8 _ _ _ _) (by omega) (by decide) HSA.out ?_; intro A5 n5 c5 w11 hn5 hown5 hgb5; have HGB := hide hgb5; have HN5 := hide hown5; have r5 := hgb5.row (HX8.out.alloc (.cells #[.int .i64 (pos : Int), .string d] 59)) (fun e => by have := HLV.out _ e; omega); have q50 := r5.cell 0; have q51 := r5.cell 1; have l5 := r5.lt; clear hown5 hgb5 hn5 r5) | fail)
    have HFS := hide (show (LogRecord.mk (pos : Int) d).frame.size ≤ 2005 from by rw [frame_ok HRK.out, bytes_size]; show 5 + d.size ≤ 2005; omega)
    refine (HLF.out _).mono ?_
    rintro e w12 ⟨rfl, hb12⟩
    obtain ⟨fr, hfr⟩ : ∃ fr, (LogRecord.mk (pos : Int) d).frame = fr := ⟨_, rfl⟩
    rw [hfr]
    have HFR := hide hfr
    have hfs : fr.size ≤ 2005 := by rw [← hfr]; exact HFS.out
    have s1 : ¬ (9223372036854775807 < (catF l).size + fr.size) := by omega
    have hbB : Below w.heap.size (w8.alloc (.cells #[.int .i64 (pos : Int), .string d] 59)) w11 := HGB.out.toBelow HSA.out (fun x e => HA.out.from e)
    have hbA : Below w8.heap.size w8 (w8.alloc (.cells #[.int .i64 (pos : Int), .string d] 59)) := (Below.refl _ _).alloc (Nat.le_refl _) _
    have HRZ := hide ((((HR8.out.below hbA)).low hbB hlg).below hb12)
    have HGZ := hide (show w.grownBy w12 (some g) from only_below (only_lowF (only_trans HG8.out (grownBy_below hbA (some g))) hbB (Nat.le_refl _)) hb12)
    have HNZ := hide (HN5.out.below (C := 0) hb12)
    clear hfr hb12 hbB hbA HFS q50 q51 l5 x0 x1 xl
    go_wp2
    go_roundw
    case rel =>
      refine ⟨n, l ++ [⟨(pos : Int), d⟩], _, _, pos + 1 + p2, ?_, ?_, ?_, ?_, ?_, ?_, ?_, ?_, HNZ.out, HRZ.out, HGZ.out⟩
      · rw [catF_snoc, HFR.out]
      · congr 1
      · congr 1
      · rw [List.length_append, List.length_singleton]; have := HNL.out; omega
      · omega
      · rw [List.length_append, List.length_singleton]; omega
      · rw [List.length_append, List.length_singleton]; omega
      · intro y hy
        rcases List.mem_append.1 hy with hy | hy
        · exact HOK.out y hy
        · rw [List.mem_singleton.1 hy]; exact HRK.out
    case measure => simp [intOf, wrap64]
end Go.Proofs.Ytbjblchhenmgjaa
