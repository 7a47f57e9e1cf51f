/-
  The writes of an act on a log: the program's greatest number, its files' names, its list of writes. Printed by gen/wri.py. The writes of an act on a log: the program's writes by which a plan is made sure. Printed by gen/wri2.py. The writes of an act on a log: how the program closes a segment. Printed by gen/wri3.py. The writes of an act on a log: how the program begins a log. Printed by gen/wri4.py. The writes of an act on a log: how the program mends. Printed by gen/wri5.py. The writes of an act on a log: the program. Printed by gen/wri6.py. LogWrites of the program; how many marks its result takes. Printed by gen/wri7.py. FnExactLogWrites returns true for every input: the program answers as the reference. No condition.
-/
import Derived.Deep.RegionHeld3
import Derived.BigQuiet
import Derived.OwnWalk
import Derived.Test.YtddjgbhkfdpffaaGreatDoorWDiskOkI
import Derived.Test.YtddjgbhkfdpffaaGreatDoorWCutI
import Derived.Test.YtddjgbhkfdpffaaGreatDoorWRLogAct
import Derived.Test.YtddjgbhkfdpffaaGreatDoorWRead
import Derived.Test.YtddjgbhkfdpffaaGreatDoorWWrP
import Derived.Test.YtddjgbhkfdpffaaGreatDoorWNDisk
import Derived.Test.YtddjgbhkfdpffaaGreatDoorWWrE
import Derived.Test.YtddjgbhkfdpffaaGreatDoorWPlanWI
import Derived.Test.YtddjgbhkfdpffaaGreatDoorWOpenTI
import Derived.Test.YtddjgbhkfdpffaaGreatDoorWNLogAct
import Derived.Test.YtddjgbhkfdpffaaGreatDoorWWrF
import Derived.Test.YtddjgbhkfdpffaaGreatDoorWHDisk
set_option linter.unusedVariables false
set_option linter.unusedSimpArgs false
namespace Go.Proofs.YtddjgbhkfdpffaaGreatDoor
open Go.ChangeShapes Go.WideShapes Go.ChangeAt Go.RowKit

theorem numberOf_s (s : ByteArray) (w : World) (hs : s.size ≤ 1048576) (hl : Lay w) :
    Calls Tryz.prog 128 #[.string s, .int .u8 115] w fun e w' => e = .returned (.int .i64 (fileNum s 115 : Int)) ∧ Below w.heap.size w w' := numberOf_any s 115 w hs hl
set_option maxRecDepth 100000 in
set_option maxHeartbeats 2000000 in
theorem top_any (l : List ByteArray) (A : Option Addr) (n c : Nat) (fp : List Nat) (w : World) (h : Ow w (.s 1 l.length (l.flatMap strC)) (.slice A n c) fp) (hf : Lt fp w.heap.size) (hs : ∀ x ∈ l, x.size ≤ 1048576) (hl : Lay w) (hw7 : 7 < w.heap.size) :
    Calls Tryz.prog 136 #[.slice A n c] w fun e w' => e = .returned (.int .i64 (topOf l : Int)) ∧ Below w.heap.size w w' := by
  obtain ⟨rfl, hcap, hmx⟩ := h.nlen
  unfold maxLen at hmx
  have HO := hide h
  have HLY := hide (fun (W : World) (hb : Below w.heap.size w W) => hl.low hb hw7)
  clear h hl hw7
  go_enter Tryz.func136, Tryz.ntmps136
  go_wp2
  go_loopw [3, 8] (fun t i wr => ∃ (j m : Nat), t = .int .i64 (m : Int) ∧ i = .int .i64 (j : Int) ∧ j ≤ l.length ∧ topOf (l.take j) = m ∧ m ≤ 999999 ∧ Below w.heap.size w wr) (fun _ i _ => l.length - (intOf i).toNat)
  case atStart => exact ⟨0, 0, rfl, rfl, Nat.zero_le _, rfl, by decide, Below.refl _ _⟩
  case round =>
    obtain ⟨j, m, rfl, rfl, hj, htp, hm9, hbw⟩ := hrel
    have HB := hide hbw
    have HTP := hide htp
    have HOR := hide (HO.out.below hbw hf)
    clear hbw htp
    by_cases hlt : j < l.length
    · obtain ⟨g, off, rfl, hgm, hcl, hsz⟩ := strs_at HOR.out hlt
      have hji : (j : Int) < (l.length : Int) := by omega
      have hx8 := hs _ (List.getElem_mem hlt)
      have hnx := topOf_succ l j hlt
      rw [HTP.out] at hnx
      have hmx2 := fileTop_max l[j] m
      have h0a := fileNum_le l[j] 109
      have h0b := fileNum_le l[j] 115
      have HA := hide (fun (W : World) (hb : Below w.heap.size w W) => numberOf_m l[j] W hx8 (HLY.out W hb))
      have HS := hide (numberOf_s l[j] wr hx8 (HLY.out wr HB.out))
      rw [← hmx2] at hnx
      have HNX := hide hnx
      clear hnx hmx2 HLY
      generalize fileNum l[j] 109 = a at *
      generalize fileNum l[j] 115 = b at *
      generalize l[j] = x at *
      go_wp2_with fail
      refine HS.out.mono ?_
      rintro e w4 ⟨rfl, hb4⟩
      have HB4 := hide (HB.out.trans (hb4.mono HB.out.size))
      clear hb4 HS
      go_wp2_with fail
      refine (HA.out _ HB4.out).mono ?_
      rintro e w5 ⟨rfl, hb5⟩
      have HB5 := hide (HB4.out.trans (hb5.mono HB4.out.size))
      clear hb5 HA
      go_wp2
      go_roundw
      case rel => exact ⟨j + 1, max (max m b) a, by (congr 1; (repeat' split) <;> omega), by go_num, by omega, by rw [HNX.out], by omega, HB5.out⟩
      case measure => simp [intOf]; omega
    · obtain rfl : j = l.length := by omega
      have hT : topOf l = m := by rw [← HTP.out, List.take_length]
      have HT := hide hT
      clear hT
      go_wp2
      go_ret
      exact ⟨by rw [HT.out]; rfl, HB.out⟩
set_option maxRecDepth 100000 in
set_option maxHeartbeats 2000000 in
theorem fileNames_any (d : Disk) (us0 : List Value) (fp : List Nat) (w : World) (h : OwC w d.cells us0 fp) (hf : Lt fp w.heap.size) (hfl : d.files.length ≤ 1048576) :
    Calls Tryz.prog 111 #[.agg us0.toArray] w fun e w' => ∃ v us, e = .returned v ∧ OwS w' w.heap.size 9 1 strC v d.fileList us [] ∧ Below w.heap.size w w' := by
  obtain ⟨A1, c1, A2, c2, A3, c3, f1, f2, f3, rfl, o1, o2, o3, rfl⟩ := h.oDisk
  have O1 := hide o1
  clear h o1 o2 o3
  obtain ⟨ib, hib, hb0, hb1, hb2⟩ := info_parts info_string
  have HIb := hide hib
  clear hib
  go_enter Tryz.func111, Tryz.ntmps111
  go_upto_region 1 with fail
  generalize hwA : w.alloc (.cells #[.slice A1 d.files.length c1, .slice A2 d.names.length c2, .slice A3 d.moves.length c3] 38) = wA
  have hA : Below w.heap.size w wA := by rw [← hwA]; exact (Below.refl _ _).alloc (Nat.le_refl _) _
  have HRD := hide (show Row wA w.heap.size 38 [.slice A1 d.files.length c1, .slice A2 d.names.length c2, .slice A3 d.moves.length c3] from by rw [← hwA]; exact Row.new w _ _)
  have HB1 := hide hA
  clear hwA hA
  go_upto_region 2 with fail
  have HE := hide (OwS.lit0 wA w.heap.size HB1.out.size 9 1 strC)
  have hC : Below wA.heap.size wA (wA.alloc (.cells #[] 9)) := (Below.refl _ _).alloc (Nat.le_refl _) _
  generalize wA.alloc (.cells #[] 9) = wB at *
  have HB2 := hide (HB1.out.trans (hC.mono HB1.out.size))
  have HR2 := hide (HRD.out.below hC HRD.out.lt)
  clear hC HB1 HRD
  have d0 := HR2.out.cell 0
  have ld := HR2.out.lt
  go_wp2
  clear d0 ld
  go_loopw [3, 10] (fun o i wr => ∃ (j : Nat) (A : Option Addr) (n c : Nat) (us : List Value), o = .slice A n c ∧ i = .int .i64 (j : Int) ∧ j ≤ d.files.length ∧ OwS wr w.heap.size 9 1 strC (.slice A n c) (d.fileList.take j) us [] ∧ Below w.heap.size w wr) (fun _ i _ => d.files.length - (intOf i).toNat)
  case atStart => exact ⟨0, _, _, _, _, rfl, rfl, Nat.zero_le _, HE.out, HB2.out⟩
  case round =>
    clear HE HB2 HR2
    obtain ⟨j, A, n, c, us, rfl, rfl, hj, how, hbw⟩ := hrel
    have HOW := hide how
    have HB := hide hbw
    clear how hbw
    by_cases hlt : j < d.files.length
    · obtain ⟨g, off, ws, fi, rfl, hgm, hfi, hwl, hcs, hov⟩ := (O1.out.below HB.out hf.left).elem DiskFile.cells_len hlt
      obtain ⟨rfl, hs0, hs1, hw2, rfl⟩ := hov.oDiskFile
      have p0 := hcs 0 _ rfl
      have p1 := hcs 1 _ rfl
      have p2 := hcs 2 _ rfl
      simp only [Nat.add_zero] at p0
      have hgw := cell_lt p0
      have hji : (j : Int) < (d.files.length : Int) := by omega
      have hfl' : j < d.fileList.length := by unfold Disk.fileList; rw [List.length_map]; exact hlt
      have hnm2 : d.fileList[j] = d.files[j].name := List.getElem_map DiskFile.name
      have HTK := hide (show d.fileList.take (j + 1) = d.fileList.take j ++ [d.files[j].name] by rw [List.take_succ_eq_append_getElem hfl', hnm2])
      have hll : (d.fileList.take j).length ≤ j := by rw [List.length_take]; omega
      clear hcs hov hw2 hfl' hnm2
      generalize d.files[j] = y at *
      go_upto_region 5 with fail
      generalize hwF : wr.alloc (.cells #[.string y.name, .string y.data, .int .i64 y.kept] 116) = wF
      have hF : Below wr.heap.size wr wF := by rw [← hwF]; exact (Below.refl _ _).alloc (Nat.le_refl _) _
      have RF : Row wF wr.heap.size 116 [.string y.name, .string y.data, .int .i64 y.kept] := by rw [← hwF]; exact Row.new wr _ _
      have HBF := hide (HB.out.trans (hF.mono HB.out.size))
      have HOF := hide (HOW.out.below (C := 0) hF)
      clear hwF hF HB HOW p0 p1 p2 hgw
      have p0 := RF.cell 0
      have pl := RF.lt
      clear RF
      have HDS := hide (fun W => str_src y.name hs0 W)
      have HOL := hide (HOF.out.alloc (.cells #[.string y.name] 9))
      have HAL := hide (show Below wF.heap.size wF (wF.alloc (.cells #[.string y.name] 9)) from (Below.refl _ _).alloc (Nat.le_refl _) _)
      have hszB : w.heap.size ≤ (wF.alloc (.cells #[.string y.name] 9)).heap.size := by rw [World.size_alloc]; have := HBF.out.size; omega
      generalize d.fileList.take j = K at *
      go_wp2_with (first | (at_builtin; refine wpl_app rfl _ _ 23 rfl ib _ 16 Tryz.underlying23 HIb.out hb0 hb1 hb2 rfl (by decide) strC_len rfl HOL.out [y.name] (HDS.out _) (by exact New.nil _ _) (fun g _ hg => by cases hg) _ 1 1 rfl rfl (SrcAt.new wF _ _ _ _) (by omega) (by decide) hszB ?_; intro A5 n5 c5 w5 hn5 hown5 hgb5; have HG5 := hide hgb5; have HN5 := hide hown5; clear hgb5 hown5 hn5))
      go_roundw
      case rel => exact ⟨j + 1, A5, n5, c5, _, rfl, by go_num, by omega, by rw [HTK.out]; exact HN5.out, HBF.out.trans ((HAL.out.mono HBF.out.size).trans (HG5.out.toBelow hszB (fun g e => HOL.out.from e)))⟩
      case measure => simp [intOf]; omega
    · obtain rfl : j = d.files.length := by omega
      have HO2 := hide (show OwS wr w.heap.size 9 1 strC (.slice A n c) d.fileList us [] from by
        have h := HOW.out
        rw [List.take_of_length_le (by unfold Disk.fileList; rw [List.length_map]; exact Nat.le_refl _)] at h
        exact h)
      clear HOW
      go_wp2
      go_ret
      exact ⟨_, us, rfl, HO2.out, HB.out⟩
set_option maxRecDepth 100000 in
theorem hasRoom_any (l : List ByteArray) (A : Option Addr) (n c : Nat) (fp : List Nat) (w : World) (h : Ow w (.s 1 l.length (l.flatMap strC)) (.slice A n c) fp) (hf : Lt fp w.heap.size) (hs : ∀ x ∈ l, x.size ≤ 1048576) (hl : Lay w) (hw7 : 7 < w.heap.size) :
    Calls Tryz.prog 135 #[.slice A n c] w fun e w' => e = .returned (.bool (tb (topOf l < 999999 ∧ l.length ≤ 62))) ∧ Below w.heap.size w w' := by
  obtain ⟨rfl, hcap, hmx⟩ := h.nlen
  have HT := hide (top_any l A l.length c fp w h hf hs hl hw7)
  have HD := hide (fun (P : topOf l < 999999 ∧ l.length ≤ 62) => tb_true P)
  have HN := hide (fun (P : ¬ (topOf l < 999999 ∧ l.length ≤ 62)) => tb_false P)
  clear h hl hw7
  generalize topOf l = t at *
  by_cases ht : t < 999999
  · have hti : (t : Int) < 999999 := by omega
    by_cases h2 : l.length ≤ 62
    · have h2i : (l.length : Int) ≤ 62 := by omega
      have HX := hide (HD.out ⟨ht, h2⟩)
      clear HD HN
      go_enter Tryz.func135, Tryz.ntmps135
      go_wp2_with fail
      refine HT.out.mono ?_
      rintro e w2 ⟨rfl, hb2⟩
      go_wp2
      go_ret
      exact ⟨ret_bool HX.out.symm, hb2⟩
    · have h2i : ¬ ((l.length : Int) ≤ 62) := by omega
      have HX := hide (HN.out (fun k => h2 k.2))
      clear HD HN
      go_enter Tryz.func135, Tryz.ntmps135
      go_wp2_with fail
      refine HT.out.mono ?_
      rintro e w2 ⟨rfl, hb2⟩
      go_wp2
      go_ret
      exact ⟨ret_bool (by rw [HX.out]; exact decide_eq_false (by omega)), hb2⟩
  · have hti : ¬ ((t : Int) < 999999) := by omega
    have HX := hide (HN.out (fun k => ht k.1))
    have e1 : decide ((t : Int) < 999999) = false := decide_eq_false hti
    clear HD HN
    go_enter Tryz.func135, Tryz.ntmps135
    go_wp2_with fail
    refine HT.out.mono ?_
    rintro e w2 ⟨rfl, hb2⟩
    go_upto_region 1 with fail
    iterate 16 (first | go_step | skip)
    go_wp2
    go_ret
    exact ⟨ret_bool HX.out.symm, hb2⟩
set_option maxRecDepth 100000 in
theorem cloneParts_any (l : List LogPart) (A : Option Addr) (n c : Nat) (fp : List Nat) (w : World) (h : Ow w (.s 4 l.length (l.flatMap LogPart.cells)) (.slice A n c) fp) (hb : l.length ≤ 1048576) :
    Calls Tryz.prog 139 #[.slice A n c] w fun e w' => ∃ A' n' c' us, e = .returned (.slice A' n' c') ∧ OwS w' w.heap.size 75 4 LogPart.cells (.slice A' n' c') l us [] ∧ Below w.heap.size w w' := by
  have q22 : ∀ (w : World) (a : Option Addr) (n c n' c' : Nat), (binOp .eql 28 (.slice a n c) (.slice none n' c')).run Tryz.prog w = .ok (.bool a.isNone) w := fun w a n c n' c' => Lib.run_eql_slice_nil w _ _ a n c n' c' Tryz.underlying28
  obtain ⟨rfl, hcap, hmx⟩ := h.nlen
  obtain ⟨ur, hur, hsr⟩ := h.srcParts
  have HUR := hide hur
  obtain ⟨ia, hia, ha0, ha1, ha2⟩ := info_parts8 info_part
  have HIa := hide hia
  clear hia hur
  cases A with
  | none =>
    have h0 : l = [] := by
      rcases hsr with ⟨_, h0⟩ | ⟨ad, e, _⟩
      · exact List.eq_nil_of_length_eq_zero h0
      · cases e
    subst h0
    clear hsr HUR h
    go_enter Tryz.func139, Tryz.ntmps139
    go_wp2
    go_ret
    exact ⟨none, 0, 0, [], rfl, OwS.nil _ _ _ _ _, Below.refl _ _⟩
  | some ad =>
    have HE := hide (OwS.empty8 w w.heap.size (Nat.le_refl _) 75 4 LogPart.cells)
    have HAL := hide (show Below w.heap.size w (w.alloc (.cells #[] 75)) from (Below.refl _ _).alloc (Nat.le_refl _) _)
    have HSR := hide (hsr.below HAL.out)
    have hszB : w.heap.size ≤ (w.alloc (.cells #[] 75)).heap.size := HAL.out.size
    clear hsr h
    go_enter Tryz.func139, Tryz.ntmps139
    go_wp2_with (first | (at_builtin; refine wpl_app rfl _ _ 28 rfl ia _ 32 Tryz.underlying28 HIa.out ha0 ha1 ha2 rfl (by decide) LogPart.cells_len rfl HE.out l HUR.out.far (by exact New.nil _ _) (fun g _ hg => by cases hg) _ _ _ rfl rfl HSR.out (by simp only [List.length_nil]; omega) (by decide) hszB ?_; intro A5 n5 c5 w5 hn5 hown5 hgb5; have HG5 := hide hgb5; have HN5 := hide hown5; clear hgb5 hown5 hn5))
    go_ret
    exact ⟨A5, n5, c5, _, rfl, by simpa using HN5.out, HAL.out.trans (HG5.out.toBelow hszB (fun g e => HE.out.from e))⟩
/-- a list of writes in a box of its own -/
structure WBox (W : World) (b : Nat) (A : Option Addr) (n c : Nat) (l : List DiskWrite) (us : List Value) : Prop where
  box : Row W b 148 [.slice A n c]
  own : OwS W (b + 1) 98 3 DiskWrite.cells (.slice A n c) l us []
/-- what changes as writes are added: the box, the slice's own block, what is new -/
structure Ad (b : Nat) (W : World) (v : Value) (W' : World) (v' : Value) : Prop where
  os : W'.os = W.os
  tape : W'.tape = W.tape
  output : W'.output = W.output
  size : W.heap.size ≤ W'.heap.size
  block : ∀ g, g < W.heap.size → g ≠ b → v.ownBlock ≠ some g → W'.heap[g]? = W.heap[g]?
  at' : v'.ownBlock = v.ownBlock ∨ ∃ g, v'.ownBlock = some g ∧ W.heap.size ≤ g
section
variable {b : Nat} {W W1 W2 : World} {v v1 v2 : Value}
theorem Ad.of_below (h : Below W.heap.size W W1) : Ad b W v W1 v := ⟨h.os, h.tape, h.output, h.size, fun g hg _ _ => h.block g hg, .inl rfl⟩
theorem Ad.trans (h : Ad b W v W1 v1) (k : Ad b W1 v1 W2 v2) : Ad b W v W2 v2 := by
  refine ⟨k.os.trans h.os, k.tape.trans h.tape, k.output.trans h.output, Nat.le_trans h.size k.size, fun g hg hb hv => ?_, ?_⟩
  · refine (k.block g (Nat.lt_of_lt_of_le hg h.size) hb (fun e => ?_)).trans (h.block g hg hb hv)
    rcases h.at' with h2 | ⟨g2, h2, h3⟩
    · exact hv (h2 ▸ e)
    · rw [h2] at e
      injection e with e
      omega
  · rcases k.at' with h2 | ⟨g2, h2, h3⟩
    · rw [h2]
      exact h.at'
    · exact .inr ⟨g2, h2, Nat.le_trans h.size h3⟩
theorem Ad.of_gb (h : GB W W1 v v1) (u : Value) (i : Nat) : Ad b W v (W1.setCell ⟨b, i, none⟩ u) v1 := by
  refine ⟨h.grown.os, h.grown.tape, h.grown.output, ?_, fun g hg hb hv => (Below.heap_setCell W1 ⟨b, i, none⟩ u g hb).trans (h.grown.block g hg (fun e => hv e.symm)), h.at'⟩
  have := h.grown.size
  simpa using this
theorem Ad.row {g : Nat} {e : TypeId} {cs : List Value} (h : Ad b W v W1 v1) (hr : Row W g e cs) (hb : g ≠ b) (hv : v.ownBlock ≠ some g) : Row W1 g e cs := (h.block g hr.lt hb hv).trans hr
theorem Ad.ow {d : D} {y : Value} {fp : List Nat} (h : Ad b W v W1 v1) (ho : Ow W d y fp) (hl : Lt fp W.heap.size) (hb : b ∉ fp) (hv : ∀ g, v.ownBlock = some g → g ∉ fp) : Ow W1 d y fp :=
  Ow.frame d (fun g hg => h.block g (hl g hg) (fun e => hb (e ▸ hg)) (fun e => hv g e hg)) ho
theorem Ad.owc {l : List D} {us : List Value} {fp : List Nat} (h : Ad b W v W1 v1) (ho : OwC W l us fp) (hl : Lt fp W.heap.size) (hb : b ∉ fp) (hv : ∀ g, v.ownBlock = some g → g ∉ fp) : OwC W1 l us fp :=
  OwC.frame l (fun g hg => h.block g (hl g hg) (fun e => hb (e ▸ hg)) (fun e => hv g e hg)) ho
theorem Ad.apart {fp : List Nat} (h : Ad b W v W1 v1) (hl : Lt fp W.heap.size) (hv : ∀ g, v.ownBlock = some g → g ∉ fp) : ∀ g, v1.ownBlock = some g → g ∉ fp := fun g e => by
  rcases h.at' with h2 | ⟨g2, h2, h3⟩
  · exact hv g (h2 ▸ e)
  · rw [h2] at e
    injection e with e
    subst e
    exact hl.not_mem h3
theorem Ad.toBelow {B : Nat} (h : Ad b W v W1 v1) (hB : B ≤ W.heap.size) (hb : B ≤ b) (hv : ∀ g, v.ownBlock = some g → B ≤ g) : Below B W W1 :=
  ⟨h.os, h.tape, h.output, h.size, fun g hg => h.block g (Nat.lt_of_lt_of_le hg hB) (by omega) (fun e => by have := hv g e; omega)⟩
end
section
variable {W W' : World} {b : Nat} {A : Option Addr} {n c : Nat} {l : List DiskWrite} {us : List Value}
theorem WBox.below (h : WBox W b A n c l us) (hb : Below W.heap.size W W') : WBox W' b A n c l us := ⟨h.box.below hb h.box.lt, h.own.below (C := 0) hb⟩
theorem WBox.len (h : WBox W b A n c l us) : n = l.length := by
  obtain ⟨A', c', e⟩ := h.own.form
  injection e
theorem WBox.from (h : WBox W b A n c l us) : ∀ g, (Value.slice A n c).ownBlock = some g → b + 1 ≤ g := fun g e => h.own.from e
end
set_option maxRecDepth 100000 in
set_option maxHeartbeats 2000000 in
theorem add_any (W : World) (b : Nat) (A : Option Addr) (n c : Nat) (l : List DiskWrite) (us : List Value) (H : WBox W b A n c l us) (x : DiskWrite) (hk : (Lit.int .i64 x.kind).wf = true) (hn : x.name.size ≤ maxLen) (hd : x.data.size ≤ maxLen) (hl : l.length ≤ 100000000) :
    Calls Tryz.prog 108 #[.pointer (some ⟨b, 0, none⟩), .int .i64 x.kind, .string x.name, .string x.data] W fun e W' => ∃ A' n' c' us', e = .returned (.tuple #[]) ∧ WBox W' b A' n' c' (l ++ [x]) us' ∧ Ad b W (.slice A n c) W' (.slice A' n' c') := by
  obtain rfl := H.len
  obtain ⟨ia, hia, ha0, ha1, ha2⟩ := info_parts8 info_write
  have HIa := hide hia
  have HW := hide H
  have HDS := hide (fun W => wr_src x hk hn hd W)
  have z0 := H.box.cell 0
  have zl := H.box.lt
  have HAL := hide (show Below W.heap.size W (W.alloc (.cells #[.int .i64 x.kind, .string x.name, .string x.data] 98)) from (Below.refl _ _).alloc (Nat.le_refl _) _)
  have HOL := hide (H.own.alloc (.cells #[.int .i64 x.kind, .string x.name, .string x.data] 98))
  have HBX := hide (H.box.alloc (.cells #[.int .i64 x.kind, .string x.name, .string x.data] 98))
  have hszB : b + 1 ≤ (W.alloc (.cells #[.int .i64 x.kind, .string x.name, .string x.data] 98)).heap.size := by rw [World.size_alloc]; omega
  have hlow := hide (H.own.low (Nat.lt_succ_self b))
  clear hia H hk hn hd
  go_enter Tryz.func108, Tryz.ntmps108
  go_wp2_with (first | (at_builtin; refine wpl_app rfl _ _ 49 rfl ia _ 40 Tryz.underlying49 HIa.out ha0 ha1 ha2 rfl (by decide) DiskWrite.cells_len rfl HOL.out [x] (HDS.out _) (by exact New.nil _ _) (fun g _ hg => by cases hg) _ 1 1 rfl rfl (SrcAt.new W _ _ _ _) (by omega) (by decide) hszB ?_; intro A5 n5 c5 w5 hn5 hown5 hgb5; have HG5 := hide hgb5; have HN5 := hide hown5; have r5 := hgb5.row HBX.out hlow.out; have HR5 := hide r5; have v0 := r5.cell 0; have y0 := r5.frozen 0; have yl := r5.lt; clear hgb5 hown5 hn5 r5))
  go_end0
  refine ⟨A5, n5, c5, _, rfl, ⟨by simpa using HR5.out.set 0 (.slice A5 n5 c5), HN5.out.setCell (by simp) (HN5.out.low (Nat.lt_succ_self b)) _⟩, (Ad.of_below HAL.out).trans (Ad.of_gb HG5.out _ 0)⟩
end Go.Proofs.YtddjgbhkfdpffaaGreatDoor
set_option linter.unusedVariables false
set_option linter.unusedSimpArgs false
namespace Go.Proofs.YtddjgbhkfdpffaaGreatDoor
open Go.ChangeShapes Go.WideShapes Go.ChangeAt Go.RowKit

theorem Ad.cell {b : Nat} {W W1 : World} {v v1 : Value} (h : Ad b W v W1 v1) {g i : Nat} {x : Value} (hc : W.cell? ⟨g, i, none⟩ = some x) (hb : g ≠ b) (hv : v.ownBlock ≠ some g) : W1.cell? ⟨g, i, none⟩ = some x := (World.cell?_of_block (a := ⟨g, i, none⟩) (h.block g (cell_lt hc) hb hv)).trans hc
/-- what adding writes hands back -/
def AddOut (W : World) (b : Nat) (v : Value) (l : List DiskWrite) (W' : World) : Prop := ∃ A' n' c' us', WBox W' b A' n' c' l us' ∧ Ad b W v W' (.slice A' n' c')
theorem add_out (W : World) (b : Nat) (A : Option Addr) (n c : Nat) (l : List DiskWrite) (us : List Value) (H : WBox W b A n c l us) (k : Int) (nm dt : ByteArray) (hk : (Lit.int .i64 k).wf = true) (hn : nm.size ≤ 5000) (hd : dt.size ≤ 5000) (hl : l.length ≤ 100000000) :
    Calls Tryz.prog 108 #[.pointer (some ⟨b, 0, none⟩), .int .i64 k, .string nm, .string dt] W fun e W' => e = .returned (.tuple #[]) ∧ AddOut W b (.slice A n c) (l ++ [⟨k, nm, dt⟩]) W' := by
  refine (add_any W b A n c l us H ⟨k, nm, dt⟩ hk (by show nm.size ≤ maxLen; unfold maxLen; omega) (by show dt.size ≤ maxLen; unfold maxLen; omega) hl).mono ?_
  rintro e W' ⟨A', n', c', us', rfl, h1, h2⟩
  exact ⟨rfl, A', n', c', us', h1, h2⟩
set_option maxRecDepth 100000 in
set_option maxHeartbeats 4000000 in
theorem plan_any (W : World) (b : Nat) (A : Option Addr) (n c : Nat) (l : List DiskWrite) (us : List Value) (H : WBox W b A n c l us) (t : Int) (ht : 0 ≤ t ∧ t ≤ 9999999) (p : LogPlan) (us1 : List Value) (fp1 : List Nat) (hp : OwC W p.cells us1 fp1) (hf : Lt fp1 W.heap.size) (hbf : b ∉ fp1) (hvf : ∀ g, (Value.slice A n c).ownBlock = some g → g ∉ fp1) (hok : p.ok) (hll : l.length ≤ 10000000) (hl : Lay W) (hw7 : 7 < b) :
    Calls Tryz.prog 137 #[.pointer (some ⟨b, 0, none⟩), .int .i64 t, .agg us1.toArray] W fun e W' => e = .returned (.tuple #[]) ∧ AddOut W b (.slice A n c) (l ++ planWrites t p) W' := by
  obtain ⟨Ap, cp, f1, rfl, op, w1, w2, rfl⟩ := hp.oLogPlan
  have hwb := H.box.lt
  have hfr := H.from
  have hfr0 := H.from
  have HLY := hide (fun (V : World) (hb : Below b W V) => hl.low hb hw7)
  have HPN := hide (fun (V : World) (hb : Below b W V) => planName_any t (by omega) (by omega) V (hl.low hb hw7))
  have hnz := (names_size t ht).2
  have hxz := text_size p hok
  have HTX := hide (fun (V : World) (ho : OwC V p.cells [.slice Ap p.parts.length cp, .int .i64 p.open_, .int .i64 p.first] fp1) (hfl : Lt fp1 V.heap.size) (hb : Below b W V) => planText_any p _ fp1 V ho hfl (hl.low hb hw7).tab hok)
  clear hl hok op w1 w2
  go_enter Tryz.func137, Tryz.ntmps137
  go_upto_region 1 with fail
  generalize hwA : W.alloc (.cells #[.slice Ap p.parts.length cp, .int .i64 p.open_, .int .i64 p.first] 30) = wA
  have hA : Below W.heap.size W wA := by rw [← hwA]; exact (Below.refl _ _).alloc (Nat.le_refl _) _
  have HRP := hide (show Row wA W.heap.size 30 [.slice Ap p.parts.length cp, .int .i64 p.open_, .int .i64 p.first] from by rw [← hwA]; exact Row.new W _ _)
  have HX0 := hide (show Ad b W (.slice A n c) wA (.slice A n c) from Ad.of_below hA)
  have HW0 := hide (H.below hA)
  have HB0 := hide (hA.mono (Nat.le_of_lt hwb))
  have HP0 := hide (hp.below hA hf)
  have hf0 := hf.mono hA.size
  obtain ⟨q, hq⟩ : ∃ q, q = W.heap.size := ⟨_, rfl⟩
  rw [← hq] at HRP ⊢
  have hqb : q ≠ b := by omega
  have hqv : (Value.slice A n c).ownBlock ≠ some q := fun e => by have := H.own.lt q e; omega
  have hqf : q ∉ fp1 := fun h => by have := hf q h; omega
  clear hwA hA H hp hq
  go_wp2_with fail
  refine (HPN.out wA HB0.out).mono ?_
  rintro e wB ⟨rfl, hb⟩
  have HX1 := hide (HX0.out.trans (Ad.of_below hb))
  have HW1 := hide (HW0.out.below hb)
  have HB1 := hide (HB0.out.trans (hb.mono (Nat.le_trans (Nat.le_of_lt hwb) HX0.out.size)))
  have HP1 := hide (HP0.out.below hb hf0)
  have hf1 := hf0.mono hb.size
  have HR1 := hide (HRP.out.below hb HRP.out.lt)
  clear hb HX0 HW0 HB0 HP0 hf0 HRP
  go_wp2_with fail
  refine (add_out wB b A n c l us HW1.out 1 (planFile t) ⟨#[]⟩ (by decide) (by omega) (Nat.zero_le _) (by omega)).mono ?_
  rintro e wC ⟨rfl, A2, n2, c2, us2, hw2, hx2⟩
  have HX2 := hide (HX1.out.trans hx2)
  have HW2 := hide hw2
  have hfr2 := hw2.from
  have HB2 := hide (HX2.out.toBelow (B := b) (Nat.le_of_lt hwb) (Nat.le_refl _) (fun g e => by have := hfr g e; omega))
  have HP2 := hide (hx2.owc HP1.out hf1 hbf hvf)
  have hvf2 := hx2.apart hf1 hvf
  have hf2 := hf1.mono hx2.size
  have HR2 := hide (hx2.row HR1.out hqb hqv)
  have hqv2 : (Value.slice A2 n2 c2).ownBlock ≠ some q := fun e => by
    rcases hx2.at' with h | ⟨g, h, h3⟩
    · exact hqv (h ▸ e)
    · rw [h] at e
      injection e with e
      have := HR1.out.lt
      omega
  have hl2 : (l ++ [(⟨1, planFile t, ⟨#[]⟩⟩ : DiskWrite)]).length ≤ 10000001 := by rw [List.length_append]; simp only [List.length_singleton]; omega
  obtain ⟨l2, hl2e⟩ : ∃ x, l ++ [(⟨1, planFile t, ⟨#[]⟩⟩ : DiskWrite)] = x := ⟨_, rfl⟩
  rw [hl2e] at HW2 hl2
  have HL2 := hide hl2e
  clear hw2 hx2 HX1 HW1 HB1 HP1 hvf hf1 HR1 hqv hl2e hfr
  have r0 := HR2.out.cell 0
  have r1 := HR2.out.cell 1
  have r2 := HR2.out.cell 2
  have rl := HR2.out.lt
  go_wp2_with fail
  go_region_held3 (fun w' => w'.cell? ⟨q, 0, none⟩ = some (.slice Ap p.parts.length cp) ∧ w'.cell? ⟨q, 1, none⟩ = some (.int .i64 p.open_) ∧ w'.cell? ⟨q, 2, none⟩ = some (.int .i64 p.first))
    (first | exact hSS | exact ⟨r0, r1, r2⟩ | go_keep)
    (first
      | (go_at_call 108; refine (add_out _ b A2 n2 c2 l2 us2 (HW2.out.below hbz) 2 (planFile t) p.text (by decide) (by omega) hxz (by omega)).mono ?_; rintro e wF ⟨rfl, A3, n3, c3, us3, hw3, hx3⟩; have hSS := And.intro (hx3.cell (kcell2 r0 hbz rl) hqb hqv2) (And.intro (hx3.cell (kcell2 r1 hbz rl) hqb hqv2) (hx3.cell (kcell2 r2 hbz rl) hqb hqv2)))
      | (go_at_call 147; refine (HTX.out _ (HP2.out.below hby hf2) (hf2.mono hby.size) (HB2.out.trans (hby.mono (by have := HB2.out.size; omega)))).mono ?_; rintro e wE ⟨rfl, hb5⟩; have hbz : Below wC.heap.size wC wE := hby.trans (hb5.mono hby.size); have hSS := And.intro (kcell2 r0 hbz rl) (And.intro (kcell2 r1 hbz rl) (kcell2 r2 hbz rl)))
      | (go_at_call 138; refine (HPN.out _ (below_drewN HB2.out _)).mono ?_; rintro e wD ⟨rfl, hb4⟩; have hby : Below wC.heap.size wC wD := (below_drewN (Below.refl _ wC) _).trans hb4; have hSS := And.intro (kcell2 r0 hby rl) (And.intro (kcell2 r1 hby rl) (kcell2 r2 hby rl))))
  all_goals
    have HX3 := hide (HX2.out.trans ((Ad.of_below (b := b) (v := .slice A2 n2 c2) hbz).trans hx3))
    have HW3 := hide hw3
    have HB3 := hide (HX3.out.toBelow (B := b) (Nat.le_of_lt hwb) (Nat.le_refl _) (fun g e => by have := hfr0 g e; omega))
    have hl3 : (l2 ++ [(⟨2, planFile t, p.text⟩ : DiskWrite)]).length ≤ 10000002 := by rw [List.length_append]; simp only [List.length_singleton]; omega
    obtain ⟨l3, hl3e⟩ : ∃ x, l2 ++ [(⟨2, planFile t, p.text⟩ : DiskWrite)] = x := ⟨_, rfl⟩
    rw [hl3e] at HW3 hl3
    have HL3 := hide hl3e
    clear hbz hby hb4 hb5 hSS hw3 hx3 HW2 HX2 HB2 HP2 hf2 HR2 r0 r1 r2 rl hl3e HTX hvf2 hqv2
    go_wp2_with fail
    refine (HPN.out wF HB3.out).mono ?_
    rintro e wG ⟨rfl, hb⟩
    have HX4 := hide (HX3.out.trans (Ad.of_below hb))
    have HW4 := hide (HW3.out.below hb)
    clear hb HX3 HW3 HB3 HPN
    go_wp2_with fail
    refine (add_out wG b A3 n3 c3 l3 us3 HW4.out 3 (planFile t) ⟨#[]⟩ (by decide) (by omega) (Nat.zero_le _) (by omega)).mono ?_
    rintro e wH ⟨rfl, A5, n5, c5, us5, hw5, hx5⟩
    have HX5 := hide (HX4.out.trans hx5)
    have HW5 := hide hw5
    clear hw5 hx5 HX4 HW4
    go_wp2_with fail
    refine (add_out wH b A5 n5 c5 _ us5 HW5.out 5 ⟨#[]⟩ ⟨#[]⟩ (by decide) (Nat.zero_le _) (Nat.zero_le _) (by rw [List.length_append]; simp only [List.length_singleton]; omega)).mono ?_
    rintro e wI ⟨rfl, A6, n6, c6, us6, hw6, hx6⟩
    have HX6 := hide (HX5.out.trans hx6)
    have HW6 := hide (show WBox wI b A6 n6 c6 (l ++ planWrites t p) us6 from by
      have h := hw6
      rw [← HL3.out, ← HL2.out] at h
      rw [List.append_assoc, List.append_assoc, List.append_assoc] at h
      exact h)
    clear hw6 hx6 HX5 HW5
    go_wp2
    go_end0
    exact ⟨rfl, A6, n6, c6, us6, HW6.out, HX6.out⟩
end Go.Proofs.YtddjgbhkfdpffaaGreatDoor
set_option linter.unusedVariables false
set_option linter.unusedSimpArgs false
namespace Go.Proofs.YtddjgbhkfdpffaaGreatDoor
open Go.ChangeShapes Go.WideShapes Go.ChangeAt Go.RowKit

def CloseOut (W : World) (b : Nat) (v : Value) (l : List DiskWrite) (o : Option (List DiskWrite)) (e : Ending) (W' : World) : Prop :=
  match o with
  | some L => e = .returned (.bool true) ∧ AddOut W b v (l ++ L) W'
  | none => e = .returned (.bool false) ∧ Below W.heap.size W W'
theorem close_no {W W' : World} {b : Nat} {v : Value} {l : List DiskWrite} {o : Option (List DiskWrite)} {x : Bool} (h : o = none) (hx : x = false) (hb : Below W.heap.size W W') : CloseOut W b v l o (.returned (.bool x)) W' := by
  subst h hx
  exact ⟨rfl, hb⟩
theorem close_yes {W W' : World} {b : Nat} {v : Value} {l L : List DiskWrite} {o : Option (List DiskWrite)} {x : Bool} (h : o = some L) (hx : x = true) (hb : AddOut W b v (l ++ L) W') : CloseOut W b v l o (.returned (.bool x)) W' := by
  subst h hx
  exact ⟨rfl, hb⟩
set_option maxRecDepth 100000 in
set_option maxHeartbeats 8000000 in
theorem close_any (W : World) (b : Nat) (A : Option Addr) (n c : Nat) (l : List DiskWrite) (us : List Value) (H : WBox W b A n c l us) (names : List ByteArray) (An : Option Addr) (nn cn : Nat) (fn : List Nat) (hn : Ow W (.s 1 names.length (names.flatMap strC)) (.slice An nn cn) fn) (hfn : Lt fn W.heap.size) (hns : ∀ x ∈ names, x.size ≤ 1048576)
    (st : LogState) (us1 : List Value) (fp1 : List Nat) (hst : OwC W st.cells us1 fp1) (hf : Lt fp1 W.heap.size) (hbf : b ∉ fp1) (hvf : ∀ g, (Value.slice A n c).ownBlock = some g → g ∉ fp1) (hpl : st.plan.parts.length ≤ 40) (hnum : 0 ≤ st.num ∧ st.num ≤ 9999999)
    (hcl : topOf names < 999999 → st.plan.parts.length < 40 → (closed ((topOf names + 1 : Nat) : Int) st).ok) (hll : l.length ≤ 2000000) (hl : Lay W) (hw7 : 7 < b) :
    Calls Tryz.prog 110 #[.pointer (some ⟨b, 0, none⟩), .slice An nn cn, .agg us1.toArray] W (CloseOut W b (.slice A n c) l (closeW names st)) := by
  obtain ⟨rfl, hncap, hnmx⟩ := hn.nlen
  obtain ⟨Ap, cp, Ar, cr, g1, g2, rfl, wa, wb, oA, wc, wd, we, wf, oB, rfl⟩ := hst.oLogState
  have hwb := H.box.lt
  have hfr0 := H.from
  have HGL := hide (fun g e => H.own.lt g e)
  have hwl := Nat.lt_trans hw7 hwb
  have HRM := hide (fun (V : World) (hb : Below W.heap.size W V) => hasRoom_any names An names.length cn fn V (hn.below hb hfn) (hfn.mono hb.size) hns (hl.low hb hwl) (Nat.lt_of_lt_of_le hwl hb.size))
  have HTP := hide (fun (V : World) (hb : Below W.heap.size W V) => top_any names An names.length cn fn V (hn.below hb hfn) (hfn.mono hb.size) hns (hl.low hb hwl) (Nat.lt_of_lt_of_le hwl hb.size))
  have HLY := hide (fun (V : World) (hb : Below b W V) => hl.low hb hw7)
  have HOA := hide oA
  have HPX := hide (part_src ⟨st.plan.open_, st.plan.first, st.next, st.size⟩ wc wd wf we W)
  have HWFN := hide wf
  have HCL := hide hcl
  have HYES := hide (closeW_yes (names := names) (st := st))
  have HNO := hide (closeW_no (names := names) (st := st))
  have ht9 := topOf_bd names
  obtain ⟨ia, hia, ha0, ha1, ha2⟩ := info_parts8 info_part
  have HIa := hide hia
  clear hn hst wa wb oA wc wd we wf oB hcl hia hl
  generalize topOf names = t at *
  go_enter Tryz.func110, Tryz.ntmps110
  go_upto_region 1 with fail
  generalize hwA : W.alloc (.cells #[.int .i64 st.code, .int .i64 st.num, .slice Ap st.plan.parts.length cp, .int .i64 st.plan.open_, .int .i64 st.plan.first, .int .i64 st.size, .bool st.torn, .int .i64 st.next, .slice Ar st.records.length cr] 33) = wA
  have hA : Below W.heap.size W wA := by rw [← hwA]; exact (Below.refl _ _).alloc (Nat.le_refl _) _
  have HZ := hide (show Row wA W.heap.size 33 [.int .i64 st.code, .int .i64 st.num, .slice Ap st.plan.parts.length cp, .int .i64 st.plan.open_, .int .i64 st.plan.first, .int .i64 st.size, .bool st.torn, .int .i64 st.next, .slice Ar st.records.length cr] from by rw [← hwA]; exact Row.new W _ _)
  have HB0 := hide hA
  have HW0 := hide (H.below hA)
  obtain ⟨q, hq⟩ : ∃ q, q = W.heap.size := ⟨_, rfl⟩
  have hqW : q ≤ W.heap.size := by omega
  have hWq : W.heap.size ≤ q := by omega
  rw [← hq] at HZ ⊢
  clear hwA hA H hq
  have hqb : q ≠ b := by omega
  have HOL := hide (fun (g : Nat) (e : (Value.slice A n c).ownBlock = some g) => show g < W.heap.size from HGL.out g e)
  clear HGL
  go_wp2_with fail
  refine (HRM.out wA HB0.out).mono ?_
  rintro e w2 ⟨rfl, hb2⟩
  have HB2 := hide (HB0.out.trans (hb2.mono HB0.out.size))
  have HZ2 := hide (HZ.out.below hb2 HZ.out.lt)
  have HW2 := hide (HW0.out.below hb2)
  clear hb2 HB0 HZ HW0 HRM
  by_cases hroom : t < 999999 ∧ names.length ≤ 62
  rotate_left
  · have HN := hide (HNO.out (fun h => hroom ⟨h.1, h.2.1⟩))
    have HT := hide (tb_false hroom)
    rw [HT.out]
    clear HYES HNO HCL hroom HTP
    go_wp2
    go_ret
    exact close_no HN.out rfl HB2.out
  have HT := hide (tb_true hroom)
  have q2 := HZ2.out.cell 2
  have ql := HZ2.out.lt
  rw [HT.out]
  by_cases hp40 : st.plan.parts.length < 40
  rotate_left
  · have hpi : (st.plan.parts.length : Int) = 40 := by omega
    have hpj : ((st.plan.parts.length : Int) == 40) = true := by simpa using hpi
    have HN := hide (HNO.out (fun h => hp40 h.2.2))
    clear HYES HNO HCL hroom HTP hp40
    clear hpi
    go_wp2
    go_ret
    exact close_no HN.out rfl HB2.out
  have hpi : ¬ ((st.plan.parts.length : Int) = 40) := by omega
  have HY := hide (HYES.out ⟨hroom.1, hroom.2, hp40⟩)
  have hokp := HCL.out hroom.1 hp40
  have HOKP := hide hokp
  have ht8 := hroom.1
  clear HYES HNO HCL hokp HT hroom
  obtain ⟨u, hu⟩ : ∃ u, u = t + 1 := ⟨_, rfl⟩
  have huw : IntKind.i64.wrap ((t : Int) + 1) = (u : Int) := by rw [wrapI _ (by omega) (by omega)]; omega
  have hu9 : u ≤ 1000000 := by omega
  rw [← hu] at HY HOKP
  clear hu
  have hpj : ((st.plan.parts.length : Int) == 40) = false := by simpa using hpi
  go_upto_region 3 with fail
  try simp only [hpj]
  clear hpj hpi
  have q3 := HZ2.out.cell 3
  have q4 := HZ2.out.cell 4
  go_cut [7, 8] from 20 to 24 (fun uv pv wx => uv = .int .i64 (u : Int) ∧ ∃ bp : Nat, pv = .pointer (some ⟨bp, 0, none⟩) ∧ Row wx bp 30 [.slice Ap st.plan.parts.length cp, .int .i64 st.plan.open_, .int .i64 st.plan.first] ∧ w2.heap.size ≤ bp ∧ Below w2.heap.size w2 wx)
  case first =>
    refine wp_region_held_drew (S := fun W => Below w2.heap.size w2 W) (by kernel_rfl) (below_drewN (Below.refl _ _) 1) (fun hS => ?_)
    generalize w2.drew = x0_ at *
    refine wpAnyH_take (i := 0) (v := .slice An names.length cn) rfl (by kernel_rfl) (by kernel_rfl) (by kernel_rfl) (fun _ _ _ h => h) (Or.inl ⟨by kernel_rfl, by (intro W hS; go_simp; first | done | with_reducible rfl | rfl)⟩) hS ?_
    (try simp only [Act.put, List.getElem_toArray, List.getElem_cons_zero, List.getElem_cons_succ, List.setIfInBounds_toArray, List.set_cons_zero, List.set_cons_succ])
    refine wpAnyH_take (i := 3) (v := .pointer (some ⟨q, 2, none⟩)) rfl (by kernel_rfl) (by kernel_rfl) (by kernel_rfl) (fun _ _ _ h => h) (Or.inl ⟨by kernel_rfl, by (intro W hS; go_simp; first | done | with_reducible rfl | rfl)⟩) hS ?_
    (try simp only [Act.put, List.getElem_toArray, List.getElem_cons_zero, List.getElem_cons_succ, List.setIfInBounds_toArray, List.set_cons_zero, List.set_cons_succ])
    refine wpAnyH_take (i := 4) (v := .agg #[.slice Ap st.plan.parts.length cp, .int .i64 st.plan.open_, .int .i64 st.plan.first]) rfl (by kernel_rfl) (by kernel_rfl) (by kernel_rfl) (fun _ _ _ h => h) (Or.inl ⟨by kernel_rfl, by (intro W hS; have y2 := (kcell2 q2 hS ql); have y3 := (kcell2 q3 hS ql); have y4 := (kcell2 q4 hS ql); have yl := cell_lt y2; go_simp; first | done | with_reducible rfl | rfl)⟩) hS ?_
    (try simp only [Act.put, List.getElem_toArray, List.getElem_cons_zero, List.getElem_cons_succ, List.setIfInBounds_toArray, List.set_cons_zero, List.set_cons_succ])
    refine wpAnyH_ready (rs := [1, 5]) (by kernel_rfl) (by simp) ?_
    refine AllReadyH.cons rfl (fun K hK => ?_) ?_
    · go_simp
      go_at_call 136
      refine (HTP.out _ (HB2.out.trans (hS.mono HB2.out.size))).mono ?_
      rintro e x1 ⟨rfl, hbt⟩
      have hS2 := hS.trans (hbt.mono hS.size)
      clear hbt
      try go_simp
      refine hK.out _ _ hS2 (fun hHeld => ?_)
      clear hK K hHeld hS
      have hS := hS2
      clear hS2
      refine wpAnyH_take (i := 2) (v := .int .i64 (u : Int)) rfl (by kernel_rfl) (by kernel_rfl) (by kernel_rfl) (fun _ _ _ h => h) (Or.inl ⟨by kernel_rfl, by (intro W hS; go_simp; first | done | with_reducible rfl | rfl)⟩) hS ?_
      (try simp only [Act.put, List.getElem_toArray, List.getElem_cons_zero, List.getElem_cons_succ, List.setIfInBounds_toArray, List.set_cons_zero, List.set_cons_succ])
      refine wpAnyH_ready (rs := [5]) (by kernel_rfl) (by simp) ?_
      refine AllReadyH.cons rfl (fun K hK => ?_) AllReadyH.nil
      go_simp
      have hRB := hide (Row.new x1 30 [.slice none 0 0, .int .i64 0, .int .i64 0])
      have hS2 := hS.alloc hS.size (.cells #[.slice none 0 0, .int .i64 0, .int .i64 0] 30)
      have hbpl : w2.heap.size ≤ x1.heap.size := hS.size
      refine hK.out _ _ hS2 (fun hHeld => ?_)
      clear hK K hHeld hS
      have hS := hS2
      clear hS2
      generalize x1.alloc (.cells #[.slice none 0 0, .int .i64 0, .int .i64 0] 30) = x1_5 at *
      refine wpAnyH_take (i := 6) (v := .int .i64 (u : Int)) rfl (by kernel_rfl) (by kernel_rfl) (by kernel_rfl) (fun _ _ _ h => h) (Or.inl ⟨by kernel_rfl, by (intro W hS; go_simp; first | done | with_reducible rfl | rfl)⟩) hS ?_
      (try simp only [Act.put, List.getElem_toArray, List.getElem_cons_zero, List.getElem_cons_succ, List.setIfInBounds_toArray, List.set_cons_zero, List.set_cons_succ])
      refine wpAnyH_ready (rs := [7]) (by kernel_rfl) (by simp) ?_
      refine AllReadyH.cons rfl (fun K hK => ?_) AllReadyH.nil
      have v0 := hRB.out.cell 0
      have v1 := hRB.out.cell 1
      have v2 := hRB.out.cell 2
      have y0 := hRB.out.frozen 0
      have y1 := hRB.out.frozen 1
      have y2 := hRB.out.frozen 2
      have yl := hRB.out.lt
      go_simp
      have hS2 := ((hS.setCell (p := ⟨x1.heap.size, 0, none⟩) hbpl (.slice Ap st.plan.parts.length cp)).setCell (p := ⟨x1.heap.size, 1, none⟩) hbpl (.int .i64 st.plan.open_)).setCell (p := ⟨x1.heap.size, 2, none⟩) hbpl (.int .i64 st.plan.first)
      have hRB := hide (show Row _ x1.heap.size 30 [.slice Ap st.plan.parts.length cp, .int .i64 st.plan.open_, .int .i64 st.plan.first] from by simpa using ((hRB.out.set 0 (.slice Ap st.plan.parts.length cp)).set 1 (.int .i64 st.plan.open_)).set 2 (.int .i64 st.plan.first))
      clear v0 v1 v2 y0 y1 y2 yl
      refine hK.out _ _ hS2 (fun hHeld => ?_)
      clear hK K hHeld hS
      have hS := hS2
      clear hS2
      generalize (World.setCell _ _ _) = x1_5_7 at *
      refine wpAnyH_done (by kernel_rfl) ?_ _
      go_wp2_with fail
      go_meet
      exact ⟨rfl, _, rfl, hRB.out, hbpl, hS⟩
    refine AllReadyH.cons rfl (fun K hK => ?_) AllReadyH.nil
    go_simp
    have hRB := hide (Row.new x0_ 30 [.slice none 0 0, .int .i64 0, .int .i64 0])
    have hS2 := hS.alloc hS.size (.cells #[.slice none 0 0, .int .i64 0, .int .i64 0] 30)
    have hbpl : w2.heap.size ≤ x0_.heap.size := hS.size
    refine hK.out _ _ hS2 (fun hHeld => ?_)
    clear hK K hHeld hS
    have hS := hS2
    clear hS2
    generalize x0_.alloc (.cells #[.slice none 0 0, .int .i64 0, .int .i64 0] 30) = x5 at *
    refine wpAnyH_ready (rs := [1]) (by kernel_rfl) (by simp) ?_
    refine AllReadyH.cons rfl (fun K hK => ?_) AllReadyH.nil
    go_simp
    go_at_call 136
    refine (HTP.out _ (HB2.out.trans (hS.mono HB2.out.size))).mono ?_
    rintro e x5_1 ⟨rfl, hbt⟩
    have hS2 := hS.trans (hbt.mono hS.size)
    have hRB := hide (hRB.out.below hbt hRB.out.lt)
    clear hbt
    try go_simp
    refine hK.out _ _ hS2 (fun hHeld => ?_)
    clear hK K hHeld hS
    have hS := hS2
    clear hS2
    refine wpAnyH_take (i := 2) (v := .int .i64 (u : Int)) rfl (by kernel_rfl) (by kernel_rfl) (by kernel_rfl) (fun _ _ _ h => h) (Or.inl ⟨by kernel_rfl, by (intro W hS; go_simp; first | done | with_reducible rfl | rfl)⟩) hS ?_
    (try simp only [Act.put, List.getElem_toArray, List.getElem_cons_zero, List.getElem_cons_succ, List.setIfInBounds_toArray, List.set_cons_zero, List.set_cons_succ])
    refine wpAnyH_take (i := 6) (v := .int .i64 (u : Int)) rfl (by kernel_rfl) (by kernel_rfl) (by kernel_rfl) (fun _ _ _ h => h) (Or.inl ⟨by kernel_rfl, by (intro W hS; go_simp; first | done | with_reducible rfl | rfl)⟩) hS ?_
    (try simp only [Act.put, List.getElem_toArray, List.getElem_cons_zero, List.getElem_cons_succ, List.setIfInBounds_toArray, List.set_cons_zero, List.set_cons_succ])
    refine wpAnyH_ready (rs := [7]) (by kernel_rfl) (by simp) ?_
    refine AllReadyH.cons rfl (fun K hK => ?_) AllReadyH.nil
    have v0 := hRB.out.cell 0
    have v1 := hRB.out.cell 1
    have v2 := hRB.out.cell 2
    have y0 := hRB.out.frozen 0
    have y1 := hRB.out.frozen 1
    have y2 := hRB.out.frozen 2
    have yl := hRB.out.lt
    go_simp
    have hS2 := ((hS.setCell (p := ⟨x0_.heap.size, 0, none⟩) hbpl (.slice Ap st.plan.parts.length cp)).setCell (p := ⟨x0_.heap.size, 1, none⟩) hbpl (.int .i64 st.plan.open_)).setCell (p := ⟨x0_.heap.size, 2, none⟩) hbpl (.int .i64 st.plan.first)
    have hRB := hide (show Row _ x0_.heap.size 30 [.slice Ap st.plan.parts.length cp, .int .i64 st.plan.open_, .int .i64 st.plan.first] from by simpa using ((hRB.out.set 0 (.slice Ap st.plan.parts.length cp)).set 1 (.int .i64 st.plan.open_)).set 2 (.int .i64 st.plan.first))
    clear v0 v1 v2 y0 y1 y2 yl
    refine hK.out _ _ hS2 (fun hHeld => ?_)
    clear hK K hHeld hS
    have hS := hS2
    clear hS2
    generalize (World.setCell _ _ _) = x5_1_7 at *
    refine wpAnyH_done (by kernel_rfl) ?_ _
    go_wp2_with fail
    go_meet
    exact ⟨rfl, _, rfl, hRB.out, hbpl, hS⟩
  obtain ⟨rfl, bp, rfl, hrb, hbpl, hb3⟩ := hcut
  have HRB := hide hrb
  have HB3 := hide (HB2.out.trans (hb3.mono HB2.out.size))
  have HZ3 := hide (HZ2.out.below hb3 HZ2.out.lt)
  have HW3 := hide (HW2.out.below hb3)
  have hbpW : W.heap.size ≤ bp := Nat.le_trans HB2.out.size hbpl
  have hqbp : q < bp := Nat.lt_of_lt_of_le ql hbpl
  clear hrb hb3 HB2 HZ2 HW2 q2 q3 q4 ql hbpl HTP
  have p1 := HRB.out.cell 1
  have p2 := HRB.out.cell 2
  have pl := HRB.out.lt
  have q5 := HZ3.out.cell 5
  have q7 := HZ3.out.cell 7
  have ql := HZ3.out.lt
  go_upto_region 5 with fail
  generalize hwD : wc.alloc (.cells #[.int .i64 st.plan.open_, .int .i64 st.plan.first, .int .i64 st.next, .int .i64 st.size] 75) = w4
  have hD : Below wc.heap.size wc w4 := by rw [← hwD]; exact (Below.refl _ _).alloc (Nat.le_refl _) _
  have HRQ := hide (show Row w4 wc.heap.size 75 [.int .i64 st.plan.open_, .int .i64 st.plan.first, .int .i64 st.next, .int .i64 st.size] from by rw [← hwD]; exact Row.new wc _ _)
  have HB4 := hide (HB3.out.trans (hD.mono HB3.out.size))
  have HZ4 := hide (HZ3.out.below hD HZ3.out.lt)
  have HR4 := hide (HRB.out.below hD HRB.out.lt)
  have HW4 := hide (HW3.out.below hD)
  obtain ⟨pb, hpb⟩ : ∃ p, p = wc.heap.size := ⟨_, rfl⟩
  have hbpb : bp < pb := by rw [hpb]; exact pl
  rw [← hpb] at HRQ ⊢
  clear hwD hD hpb HB3 HZ3 HRB HW3 p1 p2 pl q5 q7 ql
  have hsg := names_size (u : Int) (by omega)
  have hb4b : Below b W w4 := HB4.out.mono (Nat.le_of_lt hwb)
  go_wp2_with fail
  refine (segmentName_any (u : Int) (by omega) (by omega) w4 (HLY.out w4 hb4b)).mono ?_
  rintro e w5 ⟨rfl, hb5⟩
  have HB5 := hide (HB4.out.trans (hb5.mono HB4.out.size))
  have HZ5 := hide (HZ4.out.below hb5 HZ4.out.lt)
  have HR5 := hide (HR4.out.below hb5 HR4.out.lt)
  have HQ5 := hide (HRQ.out.below hb5 HRQ.out.lt)
  have HW5 := hide (HW4.out.below hb5)
  clear hb5 HB4 HZ4 HR4 HRQ HW4 hb4b
  go_wp2_with fail
  refine (add_out w5 b A n c l us HW5.out 1 (segName (u : Int)) ⟨#[]⟩ (by decide) (by omega) (Nat.zero_le _) (by omega)).mono ?_
  rintro e w6 ⟨rfl, A2, n2, c2, us2, hw2, hx2⟩
  have hnv : ∀ g, (Value.slice A n c).ownBlock = some g → g ∉ [q, bp, pb] := fun g e hm => by
    have h1 := HOL.out g e
    simp only [List.mem_cons, List.not_mem_nil, or_false] at hm
    omega
  have hl3 : Lt [q, bp, pb] w5.heap.size := fun g hm => by
    have h1 := HQ5.out.lt
    simp only [List.mem_cons, List.not_mem_nil, or_false] at hm
    omega
  have hap := hx2.apart hl3 hnv
  have hownq : (Value.slice A2 n2 c2).ownBlock ≠ some q := fun e => hap q e (by simp)
  have hownbp : (Value.slice A2 n2 c2).ownBlock ≠ some bp := fun e => hap bp e (by simp)
  have hownpb : (Value.slice A2 n2 c2).ownBlock ≠ some pb := fun e => hap pb e (by simp)
  have hb_q : b ≠ q := by omega
  have hb_bp : b ≠ bp := by omega
  have hb_pb : b ≠ pb := by omega
  have HX6 := hide ((Ad.of_below (b := b) (v := .slice A n c) HB5.out).trans hx2)
  have HZ6 := hide (hx2.row HZ5.out (Ne.symm hb_q) (fun e => hnv q e (by simp)))
  have HR6 := hide (hx2.row HR5.out (Ne.symm hb_bp) (fun e => hnv bp e (by simp)))
  have HQ6 := hide (hx2.row HQ5.out (Ne.symm hb_pb) (fun e => hnv pb e (by simp)))
  have HW6 := hide hw2
  have HB6 := hide (HX6.out.toBelow (B := b) (Nat.le_of_lt hwb) (Nat.le_refl _) (fun g e => by have := hfr0 g e; omega))
  have HO6 := hide (HX6.out.ow HOA.out hf.left (fun h => hbf (List.mem_append_left _ h)) (fun g e h => hvf g e (List.mem_append_left _ h)))
  have hg6 := hf.left.mono HX6.out.size
  have hb6 : b < w6.heap.size := Nat.lt_of_lt_of_le hwb HX6.out.size
  have hl2 : (l ++ [(⟨1, segName (u : Int), ⟨#[]⟩⟩ : DiskWrite)]).length ≤ 2000001 := by rw [List.length_append]; simp only [List.length_singleton]; omega
  obtain ⟨l2, hl2e⟩ : ∃ x, l ++ [(⟨1, segName (u : Int), ⟨#[]⟩⟩ : DiskWrite)] = x := ⟨_, rfl⟩
  rw [hl2e] at HW6 hl2
  have HL2 := hide hl2e
  clear hw2 hx2 hl2e HB5 HZ5 HR5 HQ5 HW5 hnv hl3 hap
  have s0 := HZ6.out.cell 7
  have s1 := HR6.out.cell 0
  have s2 := HQ6.out.cell 0
  have s3 := HQ6.out.cell 1
  have s4 := HQ6.out.cell 2
  have s5 := HQ6.out.cell 3
  simp only [List.getElem?_cons_succ, List.getElem?_cons_zero] at s0 s1 s2 s3 s4 s5
  go_wp2_with fail
  go_cut [] from 38 to 50 (fun wx => AddOut w6 b (.slice A2 n2 c2) (l2 ++ planWrites (u : Int) (closed (u : Int) st)) wx)
  case first =>
    have hB : Below w6.heap.size w6 w6.drew := below_drewN (Below.refl _ _) 1
    refine wp_region_held_drew (S := fun W => W.cell? ⟨q, 7, none⟩ = some (.int .i64 st.next) ∧ W.cell? ⟨bp, 0, none⟩ = some (.slice Ap st.plan.parts.length cp) ∧ W.cell? ⟨pb, 0, none⟩ = some (.int .i64 st.plan.open_) ∧ W.cell? ⟨pb, 1, none⟩ = some (.int .i64 st.plan.first) ∧ W.cell? ⟨pb, 2, none⟩ = some (.int .i64 st.next) ∧ W.cell? ⟨pb, 3, none⟩ = some (.int .i64 st.size)) (by kernel_rfl) (⟨kcell2 s0 hB (cell_lt s0), kcell2 s1 hB (cell_lt s1), kcell2 s2 hB (cell_lt s2), kcell2 s3 hB (cell_lt s3), kcell2 s4 hB (cell_lt s4), kcell2 s5 hB (cell_lt s5)⟩) (fun hS => ?_)
    generalize w6.drew = x0_ at *
    refine wpAnyH_take (i := 0) (v := .pointer (some ⟨b, 0, none⟩)) rfl (by kernel_rfl) (by kernel_rfl) (by kernel_rfl) (fun _ _ _ h => h) (Or.inl ⟨by kernel_rfl, by (intro W hS; go_simp; first | done | with_reducible rfl | rfl)⟩) hS ?_
    (try simp only [Act.put, List.getElem_toArray, List.getElem_cons_zero, List.getElem_cons_succ, List.setIfInBounds_toArray, List.set_cons_zero, List.set_cons_succ])
    refine wpAnyH_take (i := 1) (v := .int .i64 (u : Int)) rfl (by kernel_rfl) (by kernel_rfl) (by kernel_rfl) (fun _ _ _ h => h) (Or.inl ⟨by kernel_rfl, by (intro W hS; go_simp; first | done | with_reducible rfl | rfl)⟩) hS ?_
    (try simp only [Act.put, List.getElem_toArray, List.getElem_cons_zero, List.getElem_cons_succ, List.setIfInBounds_toArray, List.set_cons_zero, List.set_cons_succ])
    refine wpAnyH_take (i := 2) (v := .pointer (some ⟨bp, 0, none⟩)) rfl (by kernel_rfl) (by kernel_rfl) (by kernel_rfl) (fun _ _ _ h => h) (Or.inl ⟨by kernel_rfl, by (intro W hS; go_simp; first | done | with_reducible rfl | rfl)⟩) hS ?_
    (try simp only [Act.put, List.getElem_toArray, List.getElem_cons_zero, List.getElem_cons_succ, List.setIfInBounds_toArray, List.set_cons_zero, List.set_cons_succ])
    refine wpAnyH_take (i := 3) (v := .slice Ap st.plan.parts.length cp) rfl (by kernel_rfl) (by kernel_rfl) (by kernel_rfl) (fun _ _ _ h => h) (Or.inl ⟨by kernel_rfl, by (intro W hS; have y := hS.2.1; have yl := cell_lt y; go_simp; first | done | with_reducible rfl | rfl)⟩) hS ?_
    (try simp only [Act.put, List.getElem_toArray, List.getElem_cons_zero, List.getElem_cons_succ, List.setIfInBounds_toArray, List.set_cons_zero, List.set_cons_succ])
    refine wpAnyH_take (i := 5) (v := .agg #[.int .i64 st.plan.open_, .int .i64 st.plan.first, .int .i64 st.next, .int .i64 st.size]) rfl (by kernel_rfl) (by kernel_rfl) (by kernel_rfl) (fun _ _ _ h => h) (Or.inl ⟨by kernel_rfl, by (intro W hS; have y2 := hS.2.2.1; have y3 := hS.2.2.2.1; have y4 := hS.2.2.2.2.1; have y5 := hS.2.2.2.2.2; have yl := cell_lt y2; go_simp; first | done | with_reducible rfl | rfl)⟩) hS ?_
    (try simp only [Act.put, List.getElem_toArray, List.getElem_cons_zero, List.getElem_cons_succ, List.setIfInBounds_toArray, List.set_cons_zero, List.set_cons_succ])
    refine wpAnyH_take (i := 8) (v := .int .i64 (u : Int)) rfl (by kernel_rfl) (by kernel_rfl) (by kernel_rfl) (fun _ _ _ h => h) (Or.inl ⟨by kernel_rfl, by (intro W hS; go_simp; first | done | with_reducible rfl | rfl)⟩) hS ?_
    (try simp only [Act.put, List.getElem_toArray, List.getElem_cons_zero, List.getElem_cons_succ, List.setIfInBounds_toArray, List.set_cons_zero, List.set_cons_succ])
    refine wpAnyH_take (i := 9) (v := .pointer (some ⟨q, 7, none⟩)) rfl (by kernel_rfl) (by kernel_rfl) (by kernel_rfl) (fun _ _ _ h => h) (Or.inl ⟨by kernel_rfl, by (intro W hS; go_simp; first | done | with_reducible rfl | rfl)⟩) hS ?_
    (try simp only [Act.put, List.getElem_toArray, List.getElem_cons_zero, List.getElem_cons_succ, List.setIfInBounds_toArray, List.set_cons_zero, List.set_cons_succ])
    refine wpAnyH_take (i := 10) (v := .int .i64 st.next) rfl (by kernel_rfl) (by kernel_rfl) (by kernel_rfl) (fun _ _ _ h => h) (Or.inl ⟨by kernel_rfl, by (intro W hS; have y := hS.1; have yl := cell_lt y; go_simp; first | done | with_reducible rfl | rfl)⟩) hS ?_
    (try simp only [Act.put, List.getElem_toArray, List.getElem_cons_zero, List.getElem_cons_succ, List.setIfInBounds_toArray, List.set_cons_zero, List.set_cons_succ])
    refine wpAnyH_ready (rs := [4, 6]) (by kernel_rfl) (by simp) ?_
    refine AllReadyH.cons rfl (fun K hK => ?_) ?_
    · go_simp
      go_at_call 139
      refine (cloneParts_any st.plan.parts Ap _ cp g1 _ ((HO6.out.below hB hg6)) (by omega)).mono ?_
      rintro e x4 ⟨A5, n5, c5, us5, rfl, hcl5, hbt⟩
      have hA := hide (hcl5.lower hB.size)
      have hB := hB.trans (hbt.mono hB.size)
      have hS2 := (show x4.cell? ⟨q, 7, none⟩ = some (.int .i64 st.next) ∧ x4.cell? ⟨bp, 0, none⟩ = some (.slice Ap st.plan.parts.length cp) ∧ x4.cell? ⟨pb, 0, none⟩ = some (.int .i64 st.plan.open_) ∧ x4.cell? ⟨pb, 1, none⟩ = some (.int .i64 st.plan.first) ∧ x4.cell? ⟨pb, 2, none⟩ = some (.int .i64 st.next) ∧ x4.cell? ⟨pb, 3, none⟩ = some (.int .i64 st.size) from ⟨kcell2 s0 hB (cell_lt s0), kcell2 s1 hB (cell_lt s1), kcell2 s2 hB (cell_lt s2), kcell2 s3 hB (cell_lt s3), kcell2 s4 hB (cell_lt s4), kcell2 s5 hB (cell_lt s5)⟩)
      clear hcl5 hbt
      try go_simp
      refine hK.out _ _ hS2 (fun hHeld => ?_)
      clear hK K hHeld hS
      have hS := hS2
      clear hS2
      refine wpAnyH_ready (rs := [6]) (by kernel_rfl) (by simp) ?_
      refine AllReadyH.cons rfl (fun K hK => ?_) AllReadyH.nil
      go_simp
      have hQ := hide (SrcAt.new x4 [.int .i64 st.plan.open_, .int .i64 st.plan.first, .int .i64 st.next, .int .i64 st.size] 75 1 1)
      have hB := hB.alloc hB.size (.cells #[.int .i64 st.plan.open_, .int .i64 st.plan.first, .int .i64 st.next, .int .i64 st.size] 75)
      have hS2 := (show (x4.alloc (.cells #[.int .i64 st.plan.open_, .int .i64 st.plan.first, .int .i64 st.next, .int .i64 st.size] 75)).cell? ⟨q, 7, none⟩ = some (.int .i64 st.next) ∧ (x4.alloc (.cells #[.int .i64 st.plan.open_, .int .i64 st.plan.first, .int .i64 st.next, .int .i64 st.size] 75)).cell? ⟨bp, 0, none⟩ = some (.slice Ap st.plan.parts.length cp) ∧ (x4.alloc (.cells #[.int .i64 st.plan.open_, .int .i64 st.plan.first, .int .i64 st.next, .int .i64 st.size] 75)).cell? ⟨pb, 0, none⟩ = some (.int .i64 st.plan.open_) ∧ (x4.alloc (.cells #[.int .i64 st.plan.open_, .int .i64 st.plan.first, .int .i64 st.next, .int .i64 st.size] 75)).cell? ⟨pb, 1, none⟩ = some (.int .i64 st.plan.first) ∧ (x4.alloc (.cells #[.int .i64 st.plan.open_, .int .i64 st.plan.first, .int .i64 st.next, .int .i64 st.size] 75)).cell? ⟨pb, 2, none⟩ = some (.int .i64 st.next) ∧ (x4.alloc (.cells #[.int .i64 st.plan.open_, .int .i64 st.plan.first, .int .i64 st.next, .int .i64 st.size] 75)).cell? ⟨pb, 3, none⟩ = some (.int .i64 st.size) from ⟨kcell2 s0 hB (cell_lt s0), kcell2 s1 hB (cell_lt s1), kcell2 s2 hB (cell_lt s2), kcell2 s3 hB (cell_lt s3), kcell2 s4 hB (cell_lt s4), kcell2 s5 hB (cell_lt s5)⟩)
      have hA := hide (hA.out.alloc (.cells #[.int .i64 st.plan.open_, .int .i64 st.plan.first, .int .i64 st.next, .int .i64 st.size] 75))
      refine hK.out _ _ hS2 (fun hHeld => ?_)
      clear hK K hHeld hS
      have hS := hS2
      clear hS2
      generalize x4.alloc (.cells #[.int .i64 st.plan.open_, .int .i64 st.plan.first, .int .i64 st.next, .int .i64 st.size] 75) = x4_6 at *
      refine wpAnyH_ready (rs := [7]) (by kernel_rfl) (by simp) ?_
      refine AllReadyH.cons rfl (fun K hK => ?_) AllReadyH.nil
      have hszB : w6.heap.size ≤ x4_6.heap.size := hB.size
      refine step_app (by rfl) _ _ 28 (by rfl) ia _ 32 Tryz.underlying28 HIa.out ha0 ha1 ha2 rfl (by decide) LogPart.cells_len (by rfl) hA.out [⟨st.plan.open_, st.plan.first, st.next, st.size⟩] (by exact HPX.out.far) (by exact New.nil _ _) (fun g _ hg => by cases hg) _ 1 1 (by rfl) rfl hQ.out (by omega) (by decide) hszB ?_
      intro A6 n6 c6 x4_6_7 hn6 hown6 hgb6
      have hB := hB.trans (hgb6.toBelow hszB (fun g e => hA.out.from e))
      have hS2 := (show x4_6_7.cell? ⟨q, 7, none⟩ = some (.int .i64 st.next) ∧ x4_6_7.cell? ⟨bp, 0, none⟩ = some (.slice Ap st.plan.parts.length cp) ∧ x4_6_7.cell? ⟨pb, 0, none⟩ = some (.int .i64 st.plan.open_) ∧ x4_6_7.cell? ⟨pb, 1, none⟩ = some (.int .i64 st.plan.first) ∧ x4_6_7.cell? ⟨pb, 2, none⟩ = some (.int .i64 st.next) ∧ x4_6_7.cell? ⟨pb, 3, none⟩ = some (.int .i64 st.size) from ⟨kcell2 s0 hB (cell_lt s0), kcell2 s1 hB (cell_lt s1), kcell2 s2 hB (cell_lt s2), kcell2 s3 hB (cell_lt s3), kcell2 s4 hB (cell_lt s4), kcell2 s5 hB (cell_lt s5)⟩)
      have hA2 := hide (show OwS x4_6_7 w6.heap.size 75 4 LogPart.cells (.slice A6 n6 c6) (st.plan.parts ++ [⟨st.plan.open_, st.plan.first, st.next, st.size⟩]) _ [] from hown6)
      clear hgb6 hown6 hn6 hA hQ
      obtain ⟨fz, hoz, hnz⟩ := hA2.out.toOw
      obtain ⟨A7, c7, e7⟩ := hA2.out.form
      injection e7 with e7 e8 e9
      subst e7 e8 e9
      have HPO := hide (show OwC x4_6_7 (closed (u : Int) st).cells [.slice A6 (st.plan.parts ++ ([⟨st.plan.open_, st.plan.first, st.next, st.size⟩] : List LogPart)).length c6, .int .i64 (u : Int), .int .i64 st.next] fz from OwC.mLogPlan (x := closed (u : Int) st) hoz (WalkArith.wf_i64 (by show (_ : Int) ≤ (u : Int) ∧ (u : Int) ≤ _; omega)) HWFN.out)
      obtain ⟨n6, hn6⟩ : ∃ n, (st.plan.parts ++ ([⟨st.plan.open_, st.plan.first, st.next, st.size⟩] : List LogPart)).length = n := ⟨_, rfl⟩
      rw [hn6] at HPO ⊢
      clear hn6 hoz
      refine hK.out _ _ hS2 (fun hHeld => ?_)
      clear hK K hHeld hS
      have hS := hS2
      clear hS2
      refine wpAnyH_take (i := 11) (v := .agg #[.slice A6 n6 c6, .int .i64 (u : Int), .int .i64 st.next]) rfl (by kernel_rfl) (by kernel_rfl) (by kernel_rfl) (fun _ _ _ h => h) (Or.inl ⟨by kernel_rfl, by (intro W hS; go_simp; first | done | with_reducible rfl | rfl)⟩) hS ?_
      (try simp only [Act.put, List.getElem_toArray, List.getElem_cons_zero, List.getElem_cons_succ, List.setIfInBounds_toArray, List.set_cons_zero, List.set_cons_succ])
      refine wpAnyH_ready (rs := [12]) (by kernel_rfl) (by simp) ?_
      refine AllReadyH.cons rfl (fun K hK => ?_) AllReadyH.nil
      go_simp
      go_at_call 137
      refine (plan_any _ b A2 n2 c2 l2 us2 (HW6.out.below hB) (u : Int) (by omega) (closed (u : Int) st) _ fz HPO.out hnz.lt (hnz.out hb6) (fun g e hg => by have h1 := HW6.out.own.lt g e; have h2 := (hnz.fr g hg).1; omega) HOKP.out (by omega) (HLY.out _ (HB6.out.trans (hB.mono (Nat.le_of_lt hb6)))) hw7).mono ?_
      rintro e x4_6_7_12 ⟨rfl, A9, n9, c9, us9, hw9, hx9⟩
      have hS2 := (show x4_6_7_12.cell? ⟨q, 7, none⟩ = some (.int .i64 st.next) ∧ x4_6_7_12.cell? ⟨bp, 0, none⟩ = some (.slice Ap st.plan.parts.length cp) ∧ x4_6_7_12.cell? ⟨pb, 0, none⟩ = some (.int .i64 st.plan.open_) ∧ x4_6_7_12.cell? ⟨pb, 1, none⟩ = some (.int .i64 st.plan.first) ∧ x4_6_7_12.cell? ⟨pb, 2, none⟩ = some (.int .i64 st.next) ∧ x4_6_7_12.cell? ⟨pb, 3, none⟩ = some (.int .i64 st.size) from ⟨hx9.cell hS.1 (Ne.symm hb_q) (hownq), hx9.cell hS.2.1 (Ne.symm hb_bp) (hownbp), hx9.cell hS.2.2.1 (Ne.symm hb_pb) (hownpb), hx9.cell hS.2.2.2.1 (Ne.symm hb_pb) (hownpb), hx9.cell hS.2.2.2.2.1 (Ne.symm hb_pb) (hownpb), hx9.cell hS.2.2.2.2.2 (Ne.symm hb_pb) (hownpb)⟩)
      have HX9 := hide ((Ad.of_below (b := b) (v := .slice A2 n2 c2) hB).trans hx9)
      have HW9 := hide hw9
      clear hw9 hx9
      try go_simp
      refine hK.out _ _ hS2 (fun hHeld => ?_)
      clear hK K hHeld hS
      have hS := hS2
      clear hS2
      refine wpAnyH_done (by kernel_rfl) ?_ _
      go_wp2_with fail
      go_meet
      exact ⟨A9, n9, c9, us9, HW9.out, HX9.out⟩
    refine AllReadyH.cons rfl (fun K hK => ?_) AllReadyH.nil
    go_simp
    have hQ := hide (SrcAt.new x0_ [.int .i64 st.plan.open_, .int .i64 st.plan.first, .int .i64 st.next, .int .i64 st.size] 75 1 1)
    have hB := hB.alloc hB.size (.cells #[.int .i64 st.plan.open_, .int .i64 st.plan.first, .int .i64 st.next, .int .i64 st.size] 75)
    have hS2 := (show (x0_.alloc (.cells #[.int .i64 st.plan.open_, .int .i64 st.plan.first, .int .i64 st.next, .int .i64 st.size] 75)).cell? ⟨q, 7, none⟩ = some (.int .i64 st.next) ∧ (x0_.alloc (.cells #[.int .i64 st.plan.open_, .int .i64 st.plan.first, .int .i64 st.next, .int .i64 st.size] 75)).cell? ⟨bp, 0, none⟩ = some (.slice Ap st.plan.parts.length cp) ∧ (x0_.alloc (.cells #[.int .i64 st.plan.open_, .int .i64 st.plan.first, .int .i64 st.next, .int .i64 st.size] 75)).cell? ⟨pb, 0, none⟩ = some (.int .i64 st.plan.open_) ∧ (x0_.alloc (.cells #[.int .i64 st.plan.open_, .int .i64 st.plan.first, .int .i64 st.next, .int .i64 st.size] 75)).cell? ⟨pb, 1, none⟩ = some (.int .i64 st.plan.first) ∧ (x0_.alloc (.cells #[.int .i64 st.plan.open_, .int .i64 st.plan.first, .int .i64 st.next, .int .i64 st.size] 75)).cell? ⟨pb, 2, none⟩ = some (.int .i64 st.next) ∧ (x0_.alloc (.cells #[.int .i64 st.plan.open_, .int .i64 st.plan.first, .int .i64 st.next, .int .i64 st.size] 75)).cell? ⟨pb, 3, none⟩ = some (.int .i64 st.size) from ⟨kcell2 s0 hB (cell_lt s0), kcell2 s1 hB (cell_lt s1), kcell2 s2 hB (cell_lt s2), kcell2 s3 hB (cell_lt s3), kcell2 s4 hB (cell_lt s4), kcell2 s5 hB (cell_lt s5)⟩)
    refine hK.out _ _ hS2 (fun hHeld => ?_)
    clear hK K hHeld hS
    have hS := hS2
    clear hS2
    generalize x0_.alloc (.cells #[.int .i64 st.plan.open_, .int .i64 st.plan.first, .int .i64 st.next, .int .i64 st.size] 75) = x6 at *
    refine wpAnyH_ready (rs := [4]) (by kernel_rfl) (by simp) ?_
    refine AllReadyH.cons rfl (fun K hK => ?_) AllReadyH.nil
    go_simp
    go_at_call 139
    refine (cloneParts_any st.plan.parts Ap _ cp g1 _ ((HO6.out.below hB hg6)) (by omega)).mono ?_
    rintro e x6_4 ⟨A5, n5, c5, us5, rfl, hcl5, hbt⟩
    have hA := hide (hcl5.lower hB.size)
    have hB := hB.trans (hbt.mono hB.size)
    have hS2 := (show x6_4.cell? ⟨q, 7, none⟩ = some (.int .i64 st.next) ∧ x6_4.cell? ⟨bp, 0, none⟩ = some (.slice Ap st.plan.parts.length cp) ∧ x6_4.cell? ⟨pb, 0, none⟩ = some (.int .i64 st.plan.open_) ∧ x6_4.cell? ⟨pb, 1, none⟩ = some (.int .i64 st.plan.first) ∧ x6_4.cell? ⟨pb, 2, none⟩ = some (.int .i64 st.next) ∧ x6_4.cell? ⟨pb, 3, none⟩ = some (.int .i64 st.size) from ⟨kcell2 s0 hB (cell_lt s0), kcell2 s1 hB (cell_lt s1), kcell2 s2 hB (cell_lt s2), kcell2 s3 hB (cell_lt s3), kcell2 s4 hB (cell_lt s4), kcell2 s5 hB (cell_lt s5)⟩)
    have hQ := hide (hQ.out.below hbt)
    clear hcl5 hbt
    try go_simp
    refine hK.out _ _ hS2 (fun hHeld => ?_)
    clear hK K hHeld hS
    have hS := hS2
    clear hS2
    refine wpAnyH_ready (rs := [7]) (by kernel_rfl) (by simp) ?_
    refine AllReadyH.cons rfl (fun K hK => ?_) AllReadyH.nil
    have hszB : w6.heap.size ≤ x6_4.heap.size := hB.size
    refine step_app (by rfl) _ _ 28 (by rfl) ia _ 32 Tryz.underlying28 HIa.out ha0 ha1 ha2 rfl (by decide) LogPart.cells_len (by rfl) hA.out [⟨st.plan.open_, st.plan.first, st.next, st.size⟩] (by exact HPX.out.far) (by exact New.nil _ _) (fun g _ hg => by cases hg) _ 1 1 (by rfl) rfl hQ.out (by omega) (by decide) hszB ?_
    intro A6 n6 c6 x6_4_7 hn6 hown6 hgb6
    have hB := hB.trans (hgb6.toBelow hszB (fun g e => hA.out.from e))
    have hS2 := (show x6_4_7.cell? ⟨q, 7, none⟩ = some (.int .i64 st.next) ∧ x6_4_7.cell? ⟨bp, 0, none⟩ = some (.slice Ap st.plan.parts.length cp) ∧ x6_4_7.cell? ⟨pb, 0, none⟩ = some (.int .i64 st.plan.open_) ∧ x6_4_7.cell? ⟨pb, 1, none⟩ = some (.int .i64 st.plan.first) ∧ x6_4_7.cell? ⟨pb, 2, none⟩ = some (.int .i64 st.next) ∧ x6_4_7.cell? ⟨pb, 3, none⟩ = some (.int .i64 st.size) from ⟨kcell2 s0 hB (cell_lt s0), kcell2 s1 hB (cell_lt s1), kcell2 s2 hB (cell_lt s2), kcell2 s3 hB (cell_lt s3), kcell2 s4 hB (cell_lt s4), kcell2 s5 hB (cell_lt s5)⟩)
    have hA2 := hide (show OwS x6_4_7 w6.heap.size 75 4 LogPart.cells (.slice A6 n6 c6) (st.plan.parts ++ [⟨st.plan.open_, st.plan.first, st.next, st.size⟩]) _ [] from hown6)
    clear hgb6 hown6 hn6 hA hQ
    obtain ⟨fz, hoz, hnz⟩ := hA2.out.toOw
    obtain ⟨A7, c7, e7⟩ := hA2.out.form
    injection e7 with e7 e8 e9
    subst e7 e8 e9
    have HPO := hide (show OwC x6_4_7 (closed (u : Int) st).cells [.slice A6 (st.plan.parts ++ ([⟨st.plan.open_, st.plan.first, st.next, st.size⟩] : List LogPart)).length c6, .int .i64 (u : Int), .int .i64 st.next] fz from OwC.mLogPlan (x := closed (u : Int) st) hoz (WalkArith.wf_i64 (by show (_ : Int) ≤ (u : Int) ∧ (u : Int) ≤ _; omega)) HWFN.out)
    obtain ⟨n6, hn6⟩ : ∃ n, (st.plan.parts ++ ([⟨st.plan.open_, st.plan.first, st.next, st.size⟩] : List LogPart)).length = n := ⟨_, rfl⟩
    rw [hn6] at HPO ⊢
    clear hn6 hoz
    refine hK.out _ _ hS2 (fun hHeld => ?_)
    clear hK K hHeld hS
    have hS := hS2
    clear hS2
    refine wpAnyH_take (i := 11) (v := .agg #[.slice A6 n6 c6, .int .i64 (u : Int), .int .i64 st.next]) rfl (by kernel_rfl) (by kernel_rfl) (by kernel_rfl) (fun _ _ _ h => h) (Or.inl ⟨by kernel_rfl, by (intro W hS; go_simp; first | done | with_reducible rfl | rfl)⟩) hS ?_
    (try simp only [Act.put, List.getElem_toArray, List.getElem_cons_zero, List.getElem_cons_succ, List.setIfInBounds_toArray, List.set_cons_zero, List.set_cons_succ])
    refine wpAnyH_ready (rs := [12]) (by kernel_rfl) (by simp) ?_
    refine AllReadyH.cons rfl (fun K hK => ?_) AllReadyH.nil
    go_simp
    go_at_call 137
    refine (plan_any _ b A2 n2 c2 l2 us2 (HW6.out.below hB) (u : Int) (by omega) (closed (u : Int) st) _ fz HPO.out hnz.lt (hnz.out hb6) (fun g e hg => by have h1 := HW6.out.own.lt g e; have h2 := (hnz.fr g hg).1; omega) HOKP.out (by omega) (HLY.out _ (HB6.out.trans (hB.mono (Nat.le_of_lt hb6)))) hw7).mono ?_
    rintro e x6_4_7_12 ⟨rfl, A9, n9, c9, us9, hw9, hx9⟩
    have hS2 := (show x6_4_7_12.cell? ⟨q, 7, none⟩ = some (.int .i64 st.next) ∧ x6_4_7_12.cell? ⟨bp, 0, none⟩ = some (.slice Ap st.plan.parts.length cp) ∧ x6_4_7_12.cell? ⟨pb, 0, none⟩ = some (.int .i64 st.plan.open_) ∧ x6_4_7_12.cell? ⟨pb, 1, none⟩ = some (.int .i64 st.plan.first) ∧ x6_4_7_12.cell? ⟨pb, 2, none⟩ = some (.int .i64 st.next) ∧ x6_4_7_12.cell? ⟨pb, 3, none⟩ = some (.int .i64 st.size) from ⟨hx9.cell hS.1 (Ne.symm hb_q) (hownq), hx9.cell hS.2.1 (Ne.symm hb_bp) (hownbp), hx9.cell hS.2.2.1 (Ne.symm hb_pb) (hownpb), hx9.cell hS.2.2.2.1 (Ne.symm hb_pb) (hownpb), hx9.cell hS.2.2.2.2.1 (Ne.symm hb_pb) (hownpb), hx9.cell hS.2.2.2.2.2 (Ne.symm hb_pb) (hownpb)⟩)
    have HX9 := hide ((Ad.of_below (b := b) (v := .slice A2 n2 c2) hB).trans hx9)
    have HW9 := hide hw9
    clear hw9 hx9
    try go_simp
    refine hK.out _ _ hS2 (fun hHeld => ?_)
    clear hK K hHeld hS
    have hS := hS2
    clear hS2
    refine wpAnyH_done (by kernel_rfl) ?_ _
    go_wp2_with fail
    go_meet
    exact ⟨A9, n9, c9, us9, HW9.out, HX9.out⟩
  obtain ⟨A9, n9, c9, us9, hw9, hx9⟩ := hcut
  have HX9 := hide (HX6.out.trans hx9)
  have HZ9 := hide (hx9.row HZ6.out (Ne.symm hb_q) hownq)
  have HW9 := hide hw9
  have HB9 := hide (HX9.out.toBelow (B := b) (Nat.le_of_lt hwb) (Nat.le_refl _) (fun g e => by have := hfr0 g e; omega))
  obtain ⟨l9, hl9⟩ : ∃ x, l2 ++ planWrites (u : Int) (closed (u : Int) st) = x := ⟨_, rfl⟩
  have hl9n : l9.length ≤ 2000005 := by rw [← hl9, List.length_append]; show l2.length + 4 ≤ _; omega
  rw [hl9] at HW9
  have HL9 := hide hl9
  clear hw9 hx9 HX6 HZ6 HR6 HQ6 HW6 HB6 HO6 s0 s1 s2 s3 s4 s5 hl9
  have q1 := HZ9.out.cell 1
  have ql := HZ9.out.lt
  have hpn := names_size st.num hnum
  go_wp2_with fail
  refine (planName_any st.num hnum.1 hnum.2 wc (HLY.out wc HB9.out)).mono ?_
  rintro e wD ⟨rfl, hbD⟩
  have HXD := hide (HX9.out.trans (Ad.of_below hbD))
  have HWD := hide (HW9.out.below hbD)
  clear hbD HX9 HW9 HZ9 HB9 q1 ql
  go_wp2_with fail
  refine (add_out wD b A9 n9 c9 l9 us9 HWD.out 4 (planFile st.num) ⟨#[]⟩ (by decide) (by omega) (Nat.zero_le _) (by omega)).mono ?_
  rintro e wE ⟨rfl, B1, m1, e1, vs1, hwE, hxE⟩
  have HXE := hide (HXD.out.trans hxE)
  have HWE := hide hwE
  clear hwE hxE HXD HWD
  go_wp2_with fail
  refine (add_out wE b B1 m1 e1 _ vs1 HWE.out 5 ⟨#[]⟩ ⟨#[]⟩ (by decide) (Nat.zero_le _) (Nat.zero_le _) (by rw [List.length_append]; simp only [List.length_singleton]; omega)).mono ?_
  rintro e wF ⟨rfl, B2, m2, e2, vs2, hwF, hxF⟩
  have HXF := hide (HXE.out.trans hxF)
  have HWF := hide (show WBox wF b B2 m2 e2 (l ++ closing (u : Int) st) vs2 from by
    have h := hwF
    rw [← HL9.out, ← HL2.out, List.append_assoc, List.append_assoc, List.append_assoc] at h
    exact h)
  clear hwF hxF HXE HWE
  go_wp2
  go_ret
  exact close_yes HY.out rfl ⟨B2, m2, e2, vs2, HWF.out, HXF.out⟩
end Go.Proofs.YtddjgbhkfdpffaaGreatDoor
set_option linter.unusedVariables false
set_option linter.unusedSimpArgs false
namespace Go.Proofs.YtddjgbhkfdpffaaGreatDoor
open Go.ChangeShapes Go.WideShapes Go.ChangeAt Go.RowKit

def WrRet3 (w : World) (o : Option (List DiskWrite)) (e : Ending) (w' : World) : Prop :=
  (match o with
  | some l => ∃ v fq, e = .returned (.tuple #[v, .int .i64 0, .int .i64 0]) ∧ Ow w' (.s 3 l.length (l.flatMap DiskWrite.cells)) v fq ∧ New w' fq w.heap.size
  | none => ∃ v fq, e = .returned (.tuple #[v, .int .i64 0, .int .i64 4]) ∧ Ow w' (.s 3 ([] : List DiskWrite).length (([] : List DiskWrite).flatMap DiskWrite.cells)) v fq ∧ New w' fq w.heap.size) ∧ Below w.heap.size w w'
theorem wr3_yes {w w' : World} {o : Option (List DiskWrite)} {l : List DiskWrite} {v : Value} {fq : List Nat} (h : o = some l) (ho : Ow w' (.s 3 l.length (l.flatMap DiskWrite.cells)) v fq) (hn : New w' fq w.heap.size) (hb : Below w.heap.size w w') : WrRet3 w o (.returned (.tuple #[v, .int .i64 0, .int .i64 0])) w' := by
  subst h
  exact ⟨⟨v, fq, rfl, ho, hn⟩, hb⟩
theorem wr3_no {w w' : World} {o : Option (List DiskWrite)} {v : Value} {fq : List Nat} (h : o = none) (ho : Ow w' (.s 3 ([] : List DiskWrite).length (([] : List DiskWrite).flatMap DiskWrite.cells)) v fq) (hn : New w' fq w.heap.size) (hb : Below w.heap.size w w') : WrRet3 w o (.returned (.tuple #[v, .int .i64 0, .int .i64 4])) w' := by
  subst h
  exact ⟨⟨v, fq, rfl, ho, hn⟩, hb⟩
theorem wr3_none {w w' : World} {o : Option (List DiskWrite)} {e : Ending} (hp : o = none) (h : WrRet3 w o e w') : ∃ v fq, e = .returned (.tuple #[v, .int .i64 0, .int .i64 4]) ∧ Ow w' (.s 3 ([] : List DiskWrite).length (([] : List DiskWrite).flatMap DiskWrite.cells)) v fq ∧ New w' fq w.heap.size ∧ Below w.heap.size w w' := by
  subst hp
  obtain ⟨⟨v, fq, rfl, h1, h2⟩, hb⟩ := h
  exact ⟨v, fq, rfl, h1, h2, hb⟩
theorem wr3_some {w w' : World} {o : Option (List DiskWrite)} {e : Ending} {l : List DiskWrite} (hp : o = some l) (h : WrRet3 w o e w') : ∃ v fq, e = .returned (.tuple #[v, .int .i64 0, .int .i64 0]) ∧ Ow w' (.s 3 l.length (l.flatMap DiskWrite.cells)) v fq ∧ New w' fq w.heap.size ∧ Below w.heap.size w w' := by
  subst hp
  obtain ⟨⟨v, fq, rfl, h1, h2⟩, hb⟩ := h
  exact ⟨v, fq, rfl, h1, h2, hb⟩
theorem ok_files' {d : Disk} (hok : tb d.ok = true) : (∀ i (hi : i < d.files.length), d.files[i].name.size ≤ 1048576) ∧ d.files.length ≤ 64 :=
  ⟨fun i hi => by have := ((tb_got hok).2.2.1 i hi).1.1.2.1; omega, (tb_got hok).1⟩
theorem file_sizes {d : Disk} (hok : tb d.ok = true) : ∀ x ∈ d.fileList, x.size ≤ 1048576 := fun x hx => by
  obtain ⟨f, hf, rfl⟩ := List.mem_map.1 hx
  obtain ⟨i, hi, rfl⟩ := List.getElem_of_mem hf
  exact (ok_files' hok).1 i hi
set_option maxRecDepth 100000 in
set_option maxHeartbeats 8000000 in
theorem begin_any (d : Disk) (us0 : List Value) (fp : List Nat) (w : World) (h : OwC w d.cells us0 fp) (hf : Lt fp w.heap.size) (hbk : d.bulk ≤ 1048576) (hok : tb d.ok = true) (hl : Lay w) (hw7 : 7 < w.heap.size) :
    Calls Tryz.prog 106 #[.agg us0.toArray] w (WrRet3 w d.birth) := by
  have HOC := hide h
  obtain ⟨A1, c1, A2, c2, A3, c3, f1, f2, f3, rfl, o1, o2, o3, rfl⟩ := h.oDisk
  have hfl := (ok_files' hok).2
  have HFS := hide (file_sizes hok)
  have HFN := hide (fun (W : World) (hb : Below w.heap.size w W) => fileNames_any d _ _ W (HOC.out.below hb hf) (hf.up hb) (by omega))
  have HTH := hide (fun (W : World) (hb : Below w.heap.size w W) => implThere_any d _ _ W (HOC.out.below hb hf) (hf.up hb) hbk)
  have HSH := hide (show d.shown = d.afterI d.moves.length from (Disk.shown_yes hok).trans (d.ok_after (tb_got hok) _ (Nat.le_refl _)).1.symm)
  have HLY := hide (fun (W : World) (hb : Below w.heap.size w W) => hl.low hb hw7)
  have HYES := hide (d.birth_yes)
  have HNO := hide (d.birth_no)
  have ht9 := topOf_bd d.fileList
  have HFP := hide (firstPlan_ok (topOf d.fileList))
  have hsl := d.shown_len
  clear h o1 o2 o3 hok hl
  go_enter Tryz.func106, Tryz.ntmps106
  go_upto_region 1 with fail
  generalize hwA : w.alloc (.cells #[.slice A1 d.files.length c1, .slice A2 d.names.length c2, .slice A3 d.moves.length c3] 38) = wA
  have hA : Below w.heap.size w wA := by rw [← hwA]; exact (Below.refl _ _).alloc (Nat.le_refl _) _
  have HRD := hide (show Row wA w.heap.size 38 [.slice A1 d.files.length c1, .slice A2 d.names.length c2, .slice A3 d.moves.length c3] from by rw [← hwA]; exact Row.new w _ _)
  have HB1 := hide hA
  clear hwA hA
  have d0 := HRD.out.cell 0
  have d1 := HRD.out.cell 1
  have d2 := HRD.out.cell 2
  have ld := HRD.out.lt
  go_wp2_with fail
  refine (HFN.out wA HB1.out).mono ?_
  rintro e w2 ⟨v, us, rfl, hs, hb2⟩
  obtain ⟨An, cn, rfl⟩ := hs.form
  obtain ⟨fn, hn, hnn, _⟩ := hs.toOw'
  have HN2 := hide hn
  have HNL := hide hnn.lt
  have HB2 := hide (HB1.out.trans (hb2.mono HB1.out.size))
  have HR2 := hide (HRD.out.below hb2 ld)
  have HRM := hide (hasRoom_any d.fileList An _ cn fn w2 hn hnn.lt HFS.out (HLY.out w2 HB2.out) (Nat.lt_of_lt_of_le hw7 HB2.out.size))
  have HTP := hide (fun (W : World) (hb : Below w2.heap.size w2 W) => top_any d.fileList An _ cn fn W (HN2.out.below hb HNL.out) (HNL.out.mono hb.size) HFS.out (HLY.out W (HB2.out.trans (hb.mono HB2.out.size))) (Nat.lt_of_lt_of_le hw7 (HB2.out.trans (hb.mono HB2.out.size)).size))
  clear hs hn hnn hb2 d0 d1 d2 ld HFN HRD HB1 HN2 HNL
  generalize topOf d.fileList = t at *
  go_wp2_with fail
  refine HRM.out.mono ?_
  rintro e w3 ⟨rfl, hb3⟩
  have HB3 := hide (HB2.out.trans (hb3.mono HB2.out.size))
  have HR3 := hide (HR2.out.below hb3 HR2.out.lt)
  have hb3' := hide hb3
  clear hb3 HRM HR2
  by_cases hroom : t < 999999 ∧ d.fileList.length ≤ 62
  rotate_left
  · have HN := hide (HNO.out hroom)
    have HT := hide (tb_false hroom)
    rw [HT.out]
    clear HYES HNO HFP hroom HTP
    go_wp2
    go_ret3
    exact wr3_no HN.out (Ow.nil_ _ _ _) (New.nil _ _) HB3.out
  have HT := hide (tb_true hroom)
  rw [HT.out]
  have HY := hide (HYES.out hroom)
  have hokp := HFP.out hroom.1
  have HOKP := hide hokp
  have ht8 := hroom.1
  clear HYES HNO HFP hokp hroom HT
  obtain ⟨u, hu⟩ : ∃ u, u = t + 1 := ⟨_, rfl⟩
  have huw : IntKind.i64.wrap ((t : Int) + 1) = (u : Int) := by rw [wrapI _ (by omega) (by omega)]; omega
  have hu9 : u ≤ 1000000 := by omega
  rw [← hu] at HY HOKP
  clear hu
  have hC : Below w3.heap.size w3 (w3.alloc (.cells #[.slice none 0 0] 148)) := (Below.refl _ _).alloc (Nat.le_refl _) _
  have HBX := hide (Row.new w3 148 [.slice none 0 0])
  have HTX := hide (HTP.out _ (hb3'.out.trans (hC.mono hb3'.out.size)))
  have HCC := hide hC
  clear HTP hC hb3'
  go_wp2_with fail
  refine HTX.out.mono ?_
  rintro e w4 ⟨rfl, hb4⟩
  have HW4 := hide (show WBox w4 w3.heap.size none 0 0 [] [] from ⟨HBX.out.below hb4 HBX.out.lt, OwS.nil _ _ _ _ _⟩)
  have HB4 := hide (HB3.out.trans ((HCC.out.trans (hb4.mono HCC.out.size)).mono HB3.out.size))
  have HR4 := hide (HR3.out.below (HCC.out.trans (hb4.mono HCC.out.size)) HR3.out.lt)
  have hwb : w.heap.size ≤ w3.heap.size := HB3.out.size
  obtain ⟨b, hb⟩ : ∃ b, b = w3.heap.size := ⟨_, rfl⟩
  rw [← hb] at HW4 hwb ⊢
  clear hb4 HBX HTX HCC HB3 HR3 hb
  have d0 := HR4.out.cell 0
  have d1 := HR4.out.cell 1
  have d2 := HR4.out.cell 2
  have ld := HR4.out.lt
  go_wp2_with fail
  refine (HTH.out w4 HB4.out).mono ?_
  rintro e w5 ⟨v, us, rfl, hs, hb5⟩
  obtain ⟨Aq, cq, rfl⟩ := hs.form
  obtain ⟨fq, hq, hqn, _⟩ := hs.toOw'
  rw [← HSH.out] at hq
  rw [← HSH.out]
  have HQ := hide hq
  have HQL := hide hqn.lt
  have HQB := hide (hqn.out HW4.out.box.lt)
  have HW5 := hide (HW4.out.below hb5)
  have HB5 := hide (HB4.out.trans (hb5.mono HB4.out.size))
  have hqm := hq.nlen
  unfold maxLen at hqm
  clear hs hq hqn hb5 d0 d1 d2 ld HTH HR4 HB4 HW4
  go_wp2
  go_loopw [23] (fun i wr => ∃ (j : Nat) (A : Option Addr) (n c : Nat) (us : List Value), i = .int .i64 (j : Int) ∧ j ≤ d.shown.length ∧ WBox wr b A n c ((d.shown.take j).map (wOf 4)) us ∧ Ow wr (.s 1 d.shown.length (d.shown.flatMap strC)) (.slice Aq d.shown.length cq) fq ∧ Lt fq wr.heap.size ∧ (∀ g, (Value.slice A n c).ownBlock = some g → g ∉ fq) ∧ Below w.heap.size w wr) (fun i _ => d.shown.length - (intOf i).toNat)
  case atStart => exact ⟨0, _, _, _, _, rfl, Nat.zero_le _, HW5.out, HQ.out, HQL.out, (fun g e => by cases e), HB5.out⟩
  case round =>
    clear HW5 HQ HQL HB5
    obtain ⟨j, A, n, c, us, rfl, hj, how, hoq, hlq, hno, hbw⟩ := hrel
    have HW := hide how
    have HOQ := hide hoq
    have HNO := hide hno
    have HB := hide hbw
    clear how hoq hno hbw
    by_cases hlt : j < d.shown.length
    · obtain ⟨g, off, rfl, hgm, hcl, hsz⟩ := strs_at HOQ.out hlt
      have hgw := hlq _ hgm
      have hji : (j : Int) < (d.shown.length : Int) := by omega
      have HMS := hide (map_take_succ (wOf 4) d.shown j hlt)
      have hx8 := Disk.shown_size (d := d) (List.getElem_mem hlt)
      have hln : ((d.shown.take j).map (wOf 4)).length ≤ 2000000 := by rw [List.length_map, List.length_take]; omega
      generalize d.shown[j] = x at *
      generalize (d.shown.take j).map (wOf 4) = K at *
      go_wp2_with fail
      refine (add_out wr b A n c K us HW.out 4 x ⟨#[]⟩ (by decide) (by omega) (Nat.zero_le _) (by omega)).mono ?_
      rintro e w6 ⟨rfl, A2, n2, c2, us2, hw2, hx2⟩
      have HW2 := hide hw2
      have HX2 := hide hx2
      have HFR := hide HW.out.from
      clear hw2 hx2
      go_wp2
      go_roundw
      case rel => exact ⟨j + 1, A2, n2, c2, us2, by go_num, by omega, by rw [HMS.out]; exact HW2.out, HX2.out.ow HOQ.out hlq HQB.out HNO.out, hlq.mono HX2.out.size, HX2.out.apart hlq HNO.out, HB.out.trans (HX2.out.toBelow HB.out.size hwb (fun g e => by have := HFR.out g e; omega))⟩
      case measure => simp [intOf]; omega
    · obtain rfl : j = d.shown.length := by omega
      have hln : (d.shown.map (wOf 4)).length = d.shown.length := List.length_map _
      have HW2 := hide (show WBox wr b A n c (d.shown.map (wOf 4)) us from by have h := HW.out; rw [List.take_length] at h; exact h)
      have hsg := names_size (u : Int) (by omega)
      obtain ⟨K, hK⟩ : ∃ K, d.shown.map (wOf 4) = K := ⟨_, rfl⟩
      rw [hK] at HW2 hln HY
      clear hK HW HOQ hlq HNO hlt
      go_wp2_with fail
      refine (segmentName_any (u : Int) (by omega) (by omega) wr (HLY.out wr HB.out)).mono ?_
      rintro e w6 ⟨rfl, hb6⟩
      have HB6 := hide (HB.out.trans (hb6.mono HB.out.size))
      have HW6 := hide (HW2.out.below hb6)
      clear hb6 HB HW2
      go_wp2_with fail
      refine (add_out w6 b A n c K us HW6.out 1 (segName (u : Int)) ⟨#[]⟩ (by decide) (by omega) (Nat.zero_le _) (by omega)).mono ?_
      rintro e w7 ⟨rfl, A2, n2, c2, us2, hw2, hx2⟩
      have HW7 := hide hw2
      have HFR := hide HW6.out.from
      have HB7 := hide (HB6.out.trans (hx2.toBelow HB6.out.size hwb (fun g e => by have := HFR.out g e; omega)))
      clear hw2 hx2 HB6 HW6 HFR
      go_wp2_with fail
      refine (plan_any w7 b A2 n2 c2 _ us2 HW7.out (u : Int) (by omega) (firstPlan (u : Int)) [.slice none 0 0, .int .i64 (u : Int), .int .i64 1] [] (OwC.mLogPlan (x := firstPlan (u : Int)) (Ow.nil_ _ _ _) (WalkArith.wf_i64 (by show (_ : Int) ≤ (u : Int) ∧ (u : Int) ≤ _; omega)) (show (Lit.int .i64 1).wf = true by decide)) (fun g hg => by cases hg) (by simp) (fun g e => by simp) HOKP.out (by rw [List.length_append]; simp only [List.length_singleton]; omega) (HLY.out w7 HB7.out) (by omega)).mono ?_
      rintro e w8 ⟨rfl, A3, n3, c3, us3, hw3, hx3⟩
      have HFR := hide HW7.out.from
      have HB8 := hide (HB7.out.trans (hx3.toBelow HB7.out.size hwb (fun g e => by have := HFR.out g e; omega)))
      have z0 := hw3.box.cell 0
      have zl := hw3.box.lt
      obtain ⟨fr, ho, hn⟩ := hw3.own.toOw
      have HF := hide ho
      have HN := hide (hn.mono (show w.heap.size ≤ b + 1 by omega))
      clear hw3 hx3 HB7 HW7 HFR ho hn
      go_wp2
      go_ret3
      exact wr3_yes HY.out (by have h := HF.out; rw [List.append_assoc] at h; exact h) HN.out HB8.out
end Go.Proofs.YtddjgbhkfdpffaaGreatDoor
set_option linter.unusedVariables false
set_option linter.unusedSimpArgs false
namespace Go.Proofs.YtddjgbhkfdpffaaGreatDoor
open Go.ChangeShapes Go.WideShapes Go.ChangeAt Go.RowKit

def stayTo (st : LogState) (j : Nat) : List ByteArray := planFile st.num :: segName st.plan.open_ :: (st.plan.parts.take j).map (fun p => segName p.num)
theorem stayTo_succ (st : LogState) (j : Nat) (h : j < st.plan.parts.length) : stayTo st (j + 1) = stayTo st j ++ [segName st.plan.parts[j].num] := by
  unfold stayTo
  rw [map_take_succ (fun p : LogPart => segName p.num) st.plan.parts j h]
  rfl
theorem stayTo_all (st : LogState) : stayTo st st.plan.parts.length = stays st := by
  unfold stayTo stays
  rw [List.take_length]
theorem stayTo_len (st : LogState) (j : Nat) : (stayTo st j).length ≤ j + 2 := by
  unfold stayTo
  simp only [List.length_cons, List.length_map, List.length_take]
  omega
theorem stays_sizes {d : Disk} {st : LogState} (h : d.Whole st) : ∀ x ∈ stays st, x.size ≤ 1048576 := fun x hx => by
  have := Disk.shown_size (h.mem x hx)
  omega
theorem two_src (a b : ByteArray) (ha : a.size ≤ maxLen) (hb : b.size ≤ maxLen) (W : World) : OwC W ([a, b].flatMap strC) [.string a, .string b] [] := by
  have h := (str_src a ha W).append (str_src b hb W)
  simpa using h
set_option maxRecDepth 100000 in
set_option maxHeartbeats 8000000 in
theorem mend_any (d : Disk) (us0 : List Value) (fp : List Nat) (st : LogState) (us1 : List Value) (fp1 : List Nat) (w : World) (h : OwC w d.cells us0 fp) (hf : Lt fp w.heap.size) (hbk : d.bulk ≤ 1048576) (hs : OwC w st.cells us1 fp1) (hf1 : Lt fp1 w.heap.size) (HW : d.Whole st) (hl : Lay w) (hw7 : 7 < w.heap.size) :
    Calls Tryz.prog 107 #[.agg us0.toArray, .agg us1.toArray] w (WrRet3 w (d.mended st)) := by
  have HOC := hide h
  have HSC := hide hs
  obtain ⟨A1, c1, A2, c2, A3, c3, f1, f2, f3, rfl, o1, o2, o3, rfl⟩ := h.oDisk
  obtain ⟨Ap, cp, Ar, cr, g1, g2, rfl, wa, wb, oA, wc', wd, we, wf, oB, rfl⟩ := hs.oLogState
  have hpl := HW.plan.1
  have hop := HW.plan.2.1
  have hnum := HW.num
  have HWH := hide HW
  have hsl := d.shown_len
  have HPR := hide oA
  have HTH := hide (fun (W : World) (hb : Below w.heap.size w W) => implThere_any d _ _ W (HOC.out.below hb hf) (hf.up hb) hbk)
  have HSH := hide (show d.shown = d.afterI d.moves.length from (Disk.shown_yes HW.ok).trans (d.ok_after (tb_got HW.ok) _ (Nat.le_refl _)).1.symm)
  have HLY := hide (fun (W : World) (hb : Below w.heap.size w W) => hl.low hb hw7)
  have HPN := hide (fun (W : World) (hb : Below w.heap.size w W) => planName_any st.num (by omega) (by omega) W (hl.low hb hw7))
  have HSN := hide (fun (W : World) (hb : Below w.heap.size w W) => segmentName_any st.plan.open_ (by omega) (by omega) W (hl.low hb hw7))
  have hz1 := (names_size st.num (by omega)).2
  have hz2 := (names_size st.plan.open_ (by omega)).1
  obtain ⟨ib, hib, hb0, hb1, hb2⟩ := info_parts info_string
  have HIb := hide hib
  clear h hs o1 o2 o3 oA oB wa wb wc' wd we wf hib hl HW
  go_enter Tryz.func107, Tryz.ntmps107
  go_upto_region 1 with fail
  generalize hwA : w.alloc (.cells #[.slice A1 d.files.length c1, .slice A2 d.names.length c2, .slice A3 d.moves.length c3] 38) = wA
  have hA : Below w.heap.size w wA := by rw [← hwA]; exact (Below.refl _ _).alloc (Nat.le_refl _) _
  have hsA : wA.heap.size = w.heap.size + 1 := by rw [← hwA]; simp
  have RA : Row wA w.heap.size 38 [.slice A1 d.files.length c1, .slice A2 d.names.length c2, .slice A3 d.moves.length c3] := by rw [← hwA]; exact Row.new w _ _
  try simp only [hsA]
  clear hwA
  generalize hwB : wA.alloc (.cells #[.int .i64 st.code, .int .i64 st.num, .slice Ap st.plan.parts.length cp, .int .i64 st.plan.open_, .int .i64 st.plan.first, .int .i64 st.size, .bool st.torn, .int .i64 st.next, .slice Ar st.records.length cr] 33) = w2
  have hAB : Below wA.heap.size wA w2 := by rw [← hwB]; exact (Below.refl _ _).alloc (Nat.le_refl _) _
  have HZ2 := hide (show Row w2 (w.heap.size + 1) 33 [.int .i64 st.code, .int .i64 st.num, .slice Ap st.plan.parts.length cp, .int .i64 st.plan.open_, .int .i64 st.plan.first, .int .i64 st.size, .bool st.torn, .int .i64 st.next, .slice Ar st.records.length cr] from by rw [← hwB, ← hsA]; exact Row.new wA _ _)
  have HR2 := hide (RA.below hAB RA.lt)
  have HB2 := hide (hA.trans (hAB.mono hA.size))
  clear hwB hAB hA hsA RA
  have hws : w.heap.size + 1 < w2.heap.size := HZ2.out.lt
  have z1 := HZ2.out.cell 1
  have z3 := HZ2.out.cell 3
  have zl := HZ2.out.lt
  go_cut [7, 8] from 13 to 22 (fun bv sv wx => ∃ (b : Nat) (A : Option Addr) (n c : Nat) (us : List Value), bv = .pointer (some ⟨b, 0, none⟩) ∧ sv = .slice A n c ∧ Row wx b 148 [.slice none 0 0] ∧ OwS wx w2.heap.size 9 1 strC (.slice A n c) [planFile st.num, segName st.plan.open_] us [] ∧ (Value.slice A n c).ownBlock ≠ some b ∧ w2.heap.size ≤ b ∧ Below w2.heap.size w2 wx)
  case first =>
    refine wp_region_held_drew (S := fun W => Below w2.heap.size w2 W) (by kernel_rfl) (below_drewN (Below.refl _ _) 1) (fun hS => ?_)
    generalize w2.drew = x0_ at *
    refine wpAnyH_take (i := 0) (v := .agg #[.slice none 0 0]) rfl (by kernel_rfl) (by kernel_rfl) (by kernel_rfl) (fun _ _ _ h => h) (Or.inl ⟨by kernel_rfl, by (intro W hS; go_simp; first | done | with_reducible rfl | rfl)⟩) hS ?_
    (try simp only [Act.put, List.getElem_toArray, List.getElem_cons_zero, List.getElem_cons_succ, List.setIfInBounds_toArray, List.set_cons_zero, List.set_cons_succ])
    refine wpAnyH_take (i := 2) (v := .pointer (some ⟨w.heap.size + 1, 1, none⟩)) rfl (by kernel_rfl) (by kernel_rfl) (by kernel_rfl) (fun _ _ _ h => h) (Or.inl ⟨by kernel_rfl, by (intro W hS; go_simp; first | done | with_reducible rfl | rfl)⟩) hS ?_
    (try simp only [Act.put, List.getElem_toArray, List.getElem_cons_zero, List.getElem_cons_succ, List.setIfInBounds_toArray, List.set_cons_zero, List.set_cons_succ])
    refine wpAnyH_take (i := 3) (v := .int .i64 st.num) rfl (by kernel_rfl) (by kernel_rfl) (by kernel_rfl) (fun _ _ _ h => h) (Or.inl ⟨by kernel_rfl, by (intro W hS; have y := kcell2 z1 hS zl; have yl := cell_lt y; go_simp; first | done | with_reducible rfl | rfl)⟩) hS ?_
    (try simp only [Act.put, List.getElem_toArray, List.getElem_cons_zero, List.getElem_cons_succ, List.setIfInBounds_toArray, List.set_cons_zero, List.set_cons_succ])
    refine wpAnyH_take (i := 5) (v := .pointer (some ⟨w.heap.size + 1, 2, none⟩)) rfl (by kernel_rfl) (by kernel_rfl) (by kernel_rfl) (fun _ _ _ h => h) (Or.inl ⟨by kernel_rfl, by (intro W hS; go_simp; first | done | with_reducible rfl | rfl)⟩) hS ?_
    (try simp only [Act.put, List.getElem_toArray, List.getElem_cons_zero, List.getElem_cons_succ, List.setIfInBounds_toArray, List.set_cons_zero, List.set_cons_succ])
    refine wpAnyH_take (i := 6) (v := .pointer (some ⟨w.heap.size + 1, 3, none⟩)) rfl (by kernel_rfl) (by kernel_rfl) (by kernel_rfl) (fun _ _ _ h => h) (Or.inl ⟨by kernel_rfl, by (intro W hS; go_simp; first | done | with_reducible rfl | rfl)⟩) hS ?_
    (try simp only [Act.put, List.getElem_toArray, List.getElem_cons_zero, List.getElem_cons_succ, List.setIfInBounds_toArray, List.set_cons_zero, List.set_cons_succ])
    refine wpAnyH_take (i := 7) (v := .int .i64 st.plan.open_) rfl (by kernel_rfl) (by kernel_rfl) (by kernel_rfl) (fun _ _ _ h => h) (Or.inl ⟨by kernel_rfl, by (intro W hS; have y := kcell2 z3 hS zl; have yl := cell_lt y; go_simp; first | done | with_reducible rfl | rfl)⟩) hS ?_
    (try simp only [Act.put, List.getElem_toArray, List.getElem_cons_zero, List.getElem_cons_succ, List.setIfInBounds_toArray, List.set_cons_zero, List.set_cons_succ])
    refine wpAnyH_ready (rs := [1, 4]) (by kernel_rfl) (by simp) ?_
    refine AllReadyH.cons rfl (fun K hK => ?_) ?_
    · go_simp
      have hBX := hide (Row.new x0_ 148 [.slice none 0 0])
      have hbl : w2.heap.size ≤ x0_.heap.size := hS.size
      have hS2 := hS.alloc hS.size (.cells #[.slice none 0 0] 148)
      refine hK.out _ _ hS2 (fun hHeld => ?_)
      clear hK K hHeld hS
      have hS := hS2
      clear hS2
      generalize hw_x1 : x0_.alloc (.cells #[.slice none 0 0] 148) = x1 at *
      have hz_x1 : x0_.heap.size + 1 ≤ x1.heap.size := by rw [← hw_x1, World.size_alloc]; exact Nat.le_refl _
      clear hw_x1
      refine wpAnyH_ready (rs := [4]) (by kernel_rfl) (by simp) ?_
      refine AllReadyH.cons rfl (fun K hK => ?_) AllReadyH.nil
      go_simp
      go_at_call 138
      refine (HPN.out _ (HB2.out.trans (hS.mono HB2.out.size))).mono ?_
      rintro e x1_4 ⟨rfl, hbt⟩
      have hS2 := hS.trans (hbt.mono hS.size)
      have hz_x1_4 : x1.heap.size ≤ x1_4.heap.size := hbt.size
      have hBX := hide (hBX.out.below hbt hBX.out.lt)
      clear hbt
      try go_simp
      refine hK.out _ _ hS2 (fun hHeld => ?_)
      clear hK K hHeld hS
      have hS := hS2
      clear hS2
      refine wpAnyH_ready (rs := [8]) (by kernel_rfl) (by simp) ?_
      refine AllReadyH.cons rfl (fun K hK => ?_) AllReadyH.nil
      go_simp
      go_at_call 93
      refine (HSN.out _ (HB2.out.trans (hS.mono HB2.out.size))).mono ?_
      rintro e x1_4_8 ⟨rfl, hbt⟩
      have hS2 := hS.trans (hbt.mono hS.size)
      have hz_x1_4_8 : x1_4.heap.size ≤ x1_4_8.heap.size := hbt.size
      have hBX := hide (hBX.out.below hbt hBX.out.lt)
      clear hbt
      try go_simp
      refine hK.out _ _ hS2 (fun hHeld => ?_)
      clear hK K hHeld hS
      have hS := hS2
      clear hS2
      refine wpAnyH_take (i := 10) (v := .pointer (some ⟨x0_.heap.size, 0, none⟩)) rfl (by kernel_rfl) (by kernel_rfl) (by kernel_rfl) (fun _ _ _ h => h) (Or.inl ⟨by kernel_rfl, by (intro W hS; go_simp; first | done | with_reducible rfl | rfl)⟩) hS ?_
      (try simp only [Act.put, List.getElem_toArray, List.getElem_cons_zero, List.getElem_cons_succ, List.setIfInBounds_toArray, List.set_cons_zero, List.set_cons_succ])
      refine wpAnyH_ready (rs := [9]) (by kernel_rfl) (by simp) ?_
      refine AllReadyH.cons rfl (fun K hK => ?_) AllReadyH.nil
      go_simp
      have hSS0 := OwS.ofLit x1_4_8 w2.heap.size hS.size 9 1 strC strC_len [planFile st.num, segName st.plan.open_] [.string (planFile st.num), .string (segName st.plan.open_)] (two_src _ _ (by unfold maxLen; omega) (by unfold maxLen; omega) x1_4_8) (by simp)
      have hSS := hide (show OwS (x1_4_8.alloc (.cells #[.string (planFile st.num), .string (segName st.plan.open_)] 9)) w2.heap.size 9 1 strC (.slice (some ⟨x1_4_8.heap.size, 0, none⟩) 2 2) [planFile st.num, segName st.plan.open_] _ [] from hSS0)
      have hS2 := hS.alloc hS.size (.cells #[.string (planFile st.num), .string (segName st.plan.open_)] 9)
      clear hSS0
      have hBX := hide (hBX.out.alloc (.cells #[.string (planFile st.num), .string (segName st.plan.open_)] 9))
      have hap := hide (show (Value.slice (some ⟨x1_4_8.heap.size, 0, none⟩) 2 2).ownBlock ≠ some x0_.heap.size from fun e => by injection e with e; dsimp only at e; omega)
      refine hK.out _ _ hS2 (fun hHeld => ?_)
      clear hK K hHeld hS
      have hS := hS2
      clear hS2
      generalize hw_x1_4_8_9 : x1_4_8.alloc (.cells #[.string (planFile st.num), .string (segName st.plan.open_)] 9) = x1_4_8_9 at *
      have hz_x1_4_8_9 : x1_4_8.heap.size + 1 ≤ x1_4_8_9.heap.size := by rw [← hw_x1_4_8_9, World.size_alloc]; exact Nat.le_refl _
      clear hw_x1_4_8_9
      refine wpAnyH_take (i := 11) (v := .slice (some ⟨x1_4_8.heap.size, 0, none⟩) 2 2) rfl (by kernel_rfl) (by kernel_rfl) (by kernel_rfl) (fun _ _ _ h => h) (Or.inl ⟨by kernel_rfl, by (intro W hS; go_simp; first | done | with_reducible rfl | rfl)⟩) hS ?_
      (try simp only [Act.put, List.getElem_toArray, List.getElem_cons_zero, List.getElem_cons_succ, List.setIfInBounds_toArray, List.set_cons_zero, List.set_cons_succ])
      refine wpAnyH_done (by kernel_rfl) ?_ _
      go_wp2_with fail
      go_meet
      exact ⟨_, _, _, _, _, rfl, rfl, hBX.out, hSS.out, hap.out, hbl, hS⟩
    refine AllReadyH.cons rfl (fun K hK => ?_) AllReadyH.nil
    go_simp
    go_at_call 138
    refine (HPN.out _ (HB2.out.trans (hS.mono HB2.out.size))).mono ?_
    rintro e x4 ⟨rfl, hbt⟩
    have hS2 := hS.trans (hbt.mono hS.size)
    have hz_x4 : x0_.heap.size ≤ x4.heap.size := hbt.size
    clear hbt
    try go_simp
    refine hK.out _ _ hS2 (fun hHeld => ?_)
    clear hK K hHeld hS
    have hS := hS2
    clear hS2
    refine wpAnyH_ready (rs := [1, 8]) (by kernel_rfl) (by simp) ?_
    refine AllReadyH.cons rfl (fun K hK => ?_) ?_
    · go_simp
      have hBX := hide (Row.new x4 148 [.slice none 0 0])
      have hbl : w2.heap.size ≤ x4.heap.size := hS.size
      have hS2 := hS.alloc hS.size (.cells #[.slice none 0 0] 148)
      refine hK.out _ _ hS2 (fun hHeld => ?_)
      clear hK K hHeld hS
      have hS := hS2
      clear hS2
      generalize hw_x4_1 : x4.alloc (.cells #[.slice none 0 0] 148) = x4_1 at *
      have hz_x4_1 : x4.heap.size + 1 ≤ x4_1.heap.size := by rw [← hw_x4_1, World.size_alloc]; exact Nat.le_refl _
      clear hw_x4_1
      refine wpAnyH_ready (rs := [8]) (by kernel_rfl) (by simp) ?_
      refine AllReadyH.cons rfl (fun K hK => ?_) AllReadyH.nil
      go_simp
      go_at_call 93
      refine (HSN.out _ (HB2.out.trans (hS.mono HB2.out.size))).mono ?_
      rintro e x4_1_8 ⟨rfl, hbt⟩
      have hS2 := hS.trans (hbt.mono hS.size)
      have hz_x4_1_8 : x4_1.heap.size ≤ x4_1_8.heap.size := hbt.size
      have hBX := hide (hBX.out.below hbt hBX.out.lt)
      clear hbt
      try go_simp
      refine hK.out _ _ hS2 (fun hHeld => ?_)
      clear hK K hHeld hS
      have hS := hS2
      clear hS2
      refine wpAnyH_take (i := 10) (v := .pointer (some ⟨x4.heap.size, 0, none⟩)) rfl (by kernel_rfl) (by kernel_rfl) (by kernel_rfl) (fun _ _ _ h => h) (Or.inl ⟨by kernel_rfl, by (intro W hS; go_simp; first | done | with_reducible rfl | rfl)⟩) hS ?_
      (try simp only [Act.put, List.getElem_toArray, List.getElem_cons_zero, List.getElem_cons_succ, List.setIfInBounds_toArray, List.set_cons_zero, List.set_cons_succ])
      refine wpAnyH_ready (rs := [9]) (by kernel_rfl) (by simp) ?_
      refine AllReadyH.cons rfl (fun K hK => ?_) AllReadyH.nil
      go_simp
      have hSS0 := OwS.ofLit x4_1_8 w2.heap.size hS.size 9 1 strC strC_len [planFile st.num, segName st.plan.open_] [.string (planFile st.num), .string (segName st.plan.open_)] (two_src _ _ (by unfold maxLen; omega) (by unfold maxLen; omega) x4_1_8) (by simp)
      have hSS := hide (show OwS (x4_1_8.alloc (.cells #[.string (planFile st.num), .string (segName st.plan.open_)] 9)) w2.heap.size 9 1 strC (.slice (some ⟨x4_1_8.heap.size, 0, none⟩) 2 2) [planFile st.num, segName st.plan.open_] _ [] from hSS0)
      have hS2 := hS.alloc hS.size (.cells #[.string (planFile st.num), .string (segName st.plan.open_)] 9)
      clear hSS0
      have hBX := hide (hBX.out.alloc (.cells #[.string (planFile st.num), .string (segName st.plan.open_)] 9))
      have hap := hide (show (Value.slice (some ⟨x4_1_8.heap.size, 0, none⟩) 2 2).ownBlock ≠ some x4.heap.size from fun e => by injection e with e; dsimp only at e; omega)
      refine hK.out _ _ hS2 (fun hHeld => ?_)
      clear hK K hHeld hS
      have hS := hS2
      clear hS2
      generalize hw_x4_1_8_9 : x4_1_8.alloc (.cells #[.string (planFile st.num), .string (segName st.plan.open_)] 9) = x4_1_8_9 at *
      have hz_x4_1_8_9 : x4_1_8.heap.size + 1 ≤ x4_1_8_9.heap.size := by rw [← hw_x4_1_8_9, World.size_alloc]; exact Nat.le_refl _
      clear hw_x4_1_8_9
      refine wpAnyH_take (i := 11) (v := .slice (some ⟨x4_1_8.heap.size, 0, none⟩) 2 2) rfl (by kernel_rfl) (by kernel_rfl) (by kernel_rfl) (fun _ _ _ h => h) (Or.inl ⟨by kernel_rfl, by (intro W hS; go_simp; first | done | with_reducible rfl | rfl)⟩) hS ?_
      (try simp only [Act.put, List.getElem_toArray, List.getElem_cons_zero, List.getElem_cons_succ, List.setIfInBounds_toArray, List.set_cons_zero, List.set_cons_succ])
      refine wpAnyH_done (by kernel_rfl) ?_ _
      go_wp2_with fail
      go_meet
      exact ⟨_, _, _, _, _, rfl, rfl, hBX.out, hSS.out, hap.out, hbl, hS⟩
    refine AllReadyH.cons rfl (fun K hK => ?_) AllReadyH.nil
    go_simp
    go_at_call 93
    refine (HSN.out _ (HB2.out.trans (hS.mono HB2.out.size))).mono ?_
    rintro e x4_8 ⟨rfl, hbt⟩
    have hS2 := hS.trans (hbt.mono hS.size)
    have hz_x4_8 : x4.heap.size ≤ x4_8.heap.size := hbt.size
    clear hbt
    try go_simp
    refine hK.out _ _ hS2 (fun hHeld => ?_)
    clear hK K hHeld hS
    have hS := hS2
    clear hS2
    refine wpAnyH_ready (rs := [1, 9]) (by kernel_rfl) (by simp) ?_
    refine AllReadyH.cons rfl (fun K hK => ?_) ?_
    · go_simp
      have hBX := hide (Row.new x4_8 148 [.slice none 0 0])
      have hbl : w2.heap.size ≤ x4_8.heap.size := hS.size
      have hS2 := hS.alloc hS.size (.cells #[.slice none 0 0] 148)
      refine hK.out _ _ hS2 (fun hHeld => ?_)
      clear hK K hHeld hS
      have hS := hS2
      clear hS2
      generalize hw_x4_8_1 : x4_8.alloc (.cells #[.slice none 0 0] 148) = x4_8_1 at *
      have hz_x4_8_1 : x4_8.heap.size + 1 ≤ x4_8_1.heap.size := by rw [← hw_x4_8_1, World.size_alloc]; exact Nat.le_refl _
      clear hw_x4_8_1
      refine wpAnyH_take (i := 10) (v := .pointer (some ⟨x4_8.heap.size, 0, none⟩)) rfl (by kernel_rfl) (by kernel_rfl) (by kernel_rfl) (fun _ _ _ h => h) (Or.inl ⟨by kernel_rfl, by (intro W hS; go_simp; first | done | with_reducible rfl | rfl)⟩) hS ?_
      (try simp only [Act.put, List.getElem_toArray, List.getElem_cons_zero, List.getElem_cons_succ, List.setIfInBounds_toArray, List.set_cons_zero, List.set_cons_succ])
      refine wpAnyH_ready (rs := [9]) (by kernel_rfl) (by simp) ?_
      refine AllReadyH.cons rfl (fun K hK => ?_) AllReadyH.nil
      go_simp
      have hSS0 := OwS.ofLit x4_8_1 w2.heap.size hS.size 9 1 strC strC_len [planFile st.num, segName st.plan.open_] [.string (planFile st.num), .string (segName st.plan.open_)] (two_src _ _ (by unfold maxLen; omega) (by unfold maxLen; omega) x4_8_1) (by simp)
      have hSS := hide (show OwS (x4_8_1.alloc (.cells #[.string (planFile st.num), .string (segName st.plan.open_)] 9)) w2.heap.size 9 1 strC (.slice (some ⟨x4_8_1.heap.size, 0, none⟩) 2 2) [planFile st.num, segName st.plan.open_] _ [] from hSS0)
      have hS2 := hS.alloc hS.size (.cells #[.string (planFile st.num), .string (segName st.plan.open_)] 9)
      clear hSS0
      have hBX := hide (hBX.out.alloc (.cells #[.string (planFile st.num), .string (segName st.plan.open_)] 9))
      have hap := hide (show (Value.slice (some ⟨x4_8_1.heap.size, 0, none⟩) 2 2).ownBlock ≠ some x4_8.heap.size from fun e => by injection e with e; dsimp only at e; omega)
      refine hK.out _ _ hS2 (fun hHeld => ?_)
      clear hK K hHeld hS
      have hS := hS2
      clear hS2
      generalize hw_x4_8_1_9 : x4_8_1.alloc (.cells #[.string (planFile st.num), .string (segName st.plan.open_)] 9) = x4_8_1_9 at *
      have hz_x4_8_1_9 : x4_8_1.heap.size + 1 ≤ x4_8_1_9.heap.size := by rw [← hw_x4_8_1_9, World.size_alloc]; exact Nat.le_refl _
      clear hw_x4_8_1_9
      refine wpAnyH_take (i := 11) (v := .slice (some ⟨x4_8_1.heap.size, 0, none⟩) 2 2) rfl (by kernel_rfl) (by kernel_rfl) (by kernel_rfl) (fun _ _ _ h => h) (Or.inl ⟨by kernel_rfl, by (intro W hS; go_simp; first | done | with_reducible rfl | rfl)⟩) hS ?_
      (try simp only [Act.put, List.getElem_toArray, List.getElem_cons_zero, List.getElem_cons_succ, List.setIfInBounds_toArray, List.set_cons_zero, List.set_cons_succ])
      refine wpAnyH_done (by kernel_rfl) ?_ _
      go_wp2_with fail
      go_meet
      exact ⟨_, _, _, _, _, rfl, rfl, hBX.out, hSS.out, hap.out, hbl, hS⟩
    refine AllReadyH.cons rfl (fun K hK => ?_) AllReadyH.nil
    go_simp
    have hSS0 := OwS.ofLit x4_8 w2.heap.size hS.size 9 1 strC strC_len [planFile st.num, segName st.plan.open_] [.string (planFile st.num), .string (segName st.plan.open_)] (two_src _ _ (by unfold maxLen; omega) (by unfold maxLen; omega) x4_8) (by simp)
    have hSS := hide (show OwS (x4_8.alloc (.cells #[.string (planFile st.num), .string (segName st.plan.open_)] 9)) w2.heap.size 9 1 strC (.slice (some ⟨x4_8.heap.size, 0, none⟩) 2 2) [planFile st.num, segName st.plan.open_] _ [] from hSS0)
    have hS2 := hS.alloc hS.size (.cells #[.string (planFile st.num), .string (segName st.plan.open_)] 9)
    clear hSS0
    refine hK.out _ _ hS2 (fun hHeld => ?_)
    clear hK K hHeld hS
    have hS := hS2
    clear hS2
    generalize hw_x4_8_9 : x4_8.alloc (.cells #[.string (planFile st.num), .string (segName st.plan.open_)] 9) = x4_8_9 at *
    have hz_x4_8_9 : x4_8.heap.size + 1 ≤ x4_8_9.heap.size := by rw [← hw_x4_8_9, World.size_alloc]; exact Nat.le_refl _
    clear hw_x4_8_9
    refine wpAnyH_ready (rs := [1]) (by kernel_rfl) (by simp) ?_
    refine AllReadyH.cons rfl (fun K hK => ?_) AllReadyH.nil
    go_simp
    have hBX := hide (Row.new x4_8_9 148 [.slice none 0 0])
    have hbl : w2.heap.size ≤ x4_8_9.heap.size := hS.size
    have hS2 := hS.alloc hS.size (.cells #[.slice none 0 0] 148)
    have hSS := hide (hSS.out.alloc (.cells #[.slice none 0 0] 148))
    have hap := hide (show (Value.slice (some ⟨x4_8.heap.size, 0, none⟩) 2 2).ownBlock ≠ some x4_8_9.heap.size from fun e => by injection e with e; dsimp only at e; omega)
    refine hK.out _ _ hS2 (fun hHeld => ?_)
    clear hK K hHeld hS
    have hS := hS2
    clear hS2
    generalize hw_x4_8_9_1 : x4_8_9.alloc (.cells #[.slice none 0 0] 148) = x4_8_9_1 at *
    have hz_x4_8_9_1 : x4_8_9.heap.size + 1 ≤ x4_8_9_1.heap.size := by rw [← hw_x4_8_9_1, World.size_alloc]; exact Nat.le_refl _
    clear hw_x4_8_9_1
    refine wpAnyH_take (i := 10) (v := .pointer (some ⟨x4_8_9.heap.size, 0, none⟩)) rfl (by kernel_rfl) (by kernel_rfl) (by kernel_rfl) (fun _ _ _ h => h) (Or.inl ⟨by kernel_rfl, by (intro W hS; go_simp; first | done | with_reducible rfl | rfl)⟩) hS ?_
    (try simp only [Act.put, List.getElem_toArray, List.getElem_cons_zero, List.getElem_cons_succ, List.setIfInBounds_toArray, List.set_cons_zero, List.set_cons_succ])
    refine wpAnyH_take (i := 11) (v := .slice (some ⟨x4_8.heap.size, 0, none⟩) 2 2) rfl (by kernel_rfl) (by kernel_rfl) (by kernel_rfl) (fun _ _ _ h => h) (Or.inl ⟨by kernel_rfl, by (intro W hS; go_simp; first | done | with_reducible rfl | rfl)⟩) hS ?_
    (try simp only [Act.put, List.getElem_toArray, List.getElem_cons_zero, List.getElem_cons_succ, List.setIfInBounds_toArray, List.set_cons_zero, List.set_cons_succ])
    refine wpAnyH_done (by kernel_rfl) ?_ _
    go_wp2_with fail
    go_meet
    exact ⟨_, _, _, _, _, rfl, rfl, hBX.out, hSS.out, hap.out, hbl, hS⟩
  obtain ⟨b, A, n, c, us, rfl, rfl, hbx, hss, hap, hbl, hb3⟩ := hcut
  have HBX3 := hide hbx
  have HSS3 := hide hss
  have HAP3 := hide hap
  have HB3 := hide (HB2.out.trans (hb3.mono HB2.out.size))
  have HR3 := hide (HR2.out.below hb3 HR2.out.lt)
  have HZ3 := hide (HZ2.out.below hb3 HZ2.out.lt)
  have hs3 := hb3.size
  clear hbx hss hap hb3 HB2 HR2 HZ2 z1 z3 zl HPN
  have z2 := HZ3.out.cell 2
  have zl := HZ3.out.lt
  go_wp2
  clear z2 zl
  go_loopw [8, 27] (fun sv i wr => ∃ (j : Nat) (A : Option Addr) (n c : Nat) (us : List Value), sv = .slice A n c ∧ i = .int .i64 (j : Int) ∧ j ≤ st.plan.parts.length ∧ Row wr b 148 [.slice none 0 0] ∧ OwS wr w2.heap.size 9 1 strC (.slice A n c) (stayTo st j) us [] ∧ (Value.slice A n c).ownBlock ≠ some b ∧ w2.heap.size ≤ wr.heap.size ∧ Row wr w.heap.size 38 [.slice A1 d.files.length c1, .slice A2 d.names.length c2, .slice A3 d.moves.length c3] ∧ Row wr (w.heap.size + 1) 33 [.int .i64 st.code, .int .i64 st.num, .slice Ap st.plan.parts.length cp, .int .i64 st.plan.open_, .int .i64 st.plan.first, .int .i64 st.size, .bool st.torn, .int .i64 st.next, .slice Ar st.records.length cr] ∧ Below w.heap.size w wr) (fun _ i _ => st.plan.parts.length - (intOf i).toNat)
  case atStart => exact ⟨0, _, _, _, _, rfl, rfl, Nat.zero_le _, HBX3.out, HSS3.out, HAP3.out, hs3, HR3.out, HZ3.out, HB3.out⟩
  case round =>
    clear HBX3 HSS3 HAP3 HR3 HZ3 HB3 hs3
    obtain ⟨j, A, n, c, us, rfl, rfl, hj, hbx, hss, hap, hsw, hrd, hrz, hbw⟩ := hrel
    have HBX := hide hbx
    have HSS := hide hss
    have HAP := hide hap
    have HR := hide hrd
    have HZ := hide hrz
    have HB := hide hbw
    clear hbx hss hap hrd hrz hbw
    by_cases hlt : j < st.plan.parts.length
    · obtain ⟨g, off, ws, fi, rfl, hgm, hfi, hwl, hcs, hov⟩ := (HPR.out.below HB.out hf1.left).elem LogPart.cells_len hlt
      obtain ⟨rfl, w0, w1, w2', w3', rfl⟩ := hov.oLogPart
      have c0 := hcs 0 _ rfl
      have c1' := hcs 1 _ rfl
      have c2' := hcs 2 _ rfl
      have c3' := hcs 3 _ rfl
      simp only [Nat.add_zero] at c0
      have hgl := cell_lt c0
      have hji : (j : Int) < (st.plan.parts.length : Int) := by omega
      have hjn := (HWH.out.plan.2.2.1 j hlt).1
      have HST := hide (stayTo_succ st j hlt)
      have hsl2 := stayTo_len st j
      clear hcs hov w0 w1 w2' w3'
      generalize st.plan.parts[j] = x at *
      go_upto_region 5 with fail
      generalize hwF : wr.alloc (.cells #[.int .i64 x.num, .int .i64 x.first, .int .i64 x.next, .int .i64 x.size] 75) = wF
      have hF : Below wr.heap.size wr wF := by rw [← hwF]; exact (Below.refl _ _).alloc (Nat.le_refl _) _
      have RF : Row wF wr.heap.size 75 [.int .i64 x.num, .int .i64 x.first, .int .i64 x.next, .int .i64 x.size] := by rw [← hwF]; exact Row.new wr _ _
      have HBF := hide (HB.out.trans (hF.mono HB.out.size))
      have HSF := hide (HSS.out.below (C := 0) hF)
      have HXF := hide (HBX.out.below hF HBX.out.lt)
      have HRF := hide (HR.out.below hF HR.out.lt)
      have HZF := hide (HZ.out.below hF HZ.out.lt)
      have hsF := Nat.le_trans hsw hF.size
      clear hwF hF HB HSS HBX HR HZ c0 c1' c2' c3' hgl hsw
      have p0 := RF.cell 0
      have pl := RF.lt
      have hzx := (names_size x.num (by omega)).1
      go_wp2_with fail
      refine (segmentName_any x.num (by omega) (by omega) wF (HLY.out wF HBF.out)).mono ?_
      rintro e w6 ⟨rfl, hb6⟩
      have HB6 := hide (HBF.out.trans (hb6.mono HBF.out.size))
      have HS6 := hide (HSF.out.below (C := 0) hb6)
      have HX6 := hide (HXF.out.below hb6 HXF.out.lt)
      have HR6 := hide (HRF.out.below hb6 HRF.out.lt)
      have HZ6 := hide (HZF.out.below hb6 HZF.out.lt)
      have hs6 := Nat.le_trans hsF hb6.size
      have HDS := hide (fun W => str_src (segName x.num) (show (segName x.num).size ≤ maxLen by unfold maxLen; omega) W)
      have HOL := hide (HS6.out.alloc (.cells #[.string (segName x.num)] 9))
      have HAL := hide (show Below w6.heap.size w6 (w6.alloc (.cells #[.string (segName x.num)] 9)) from (Below.refl _ _).alloc (Nat.le_refl _) _)
      have hszB : w2.heap.size ≤ (w6.alloc (.cells #[.string (segName x.num)] 9)).heap.size := by rw [World.size_alloc]; omega
      generalize stayTo st j = K at *
      clear hb6 HBF HSF HXF HRF HZF RF p0 pl hsF
      go_wp2_with (first | (at_builtin; refine wpl_app rfl _ _ 23 rfl ib _ 16 Tryz.underlying23 HIb.out hb0 hb1 hb2 rfl (by decide) strC_len rfl HOL.out [segName x.num] (HDS.out _) (by exact New.nil _ _) (fun g _ hg => by cases hg) _ 1 1 rfl rfl (SrcAt.new w6 _ _ _ _) (by omega) (by decide) hszB ?_; intro A5 n5 c5 w7 hn5 hown5 hgb5; have HG5 := hide hgb5; have HN5 := hide hown5; clear hgb5 hown5 hn5))
      go_roundw
      case rel =>
        have hgs := HG5.out.grown.size
        rw [World.size_alloc] at hgs
        exact ⟨j + 1, A5, n5, c5, _, rfl, by go_num, by omega, HG5.out.row (HX6.out.alloc _) HAP.out, by rw [HST.out]; exact HN5.out, HG5.out.ne (by rw [World.size_alloc]; have := HX6.out.lt; omega) HAP.out, by omega, HG5.out.row (HR6.out.alloc _) (HOL.out.low (by omega)), HG5.out.row (HZ6.out.alloc _) (HOL.out.low hws), HB6.out.trans ((HAL.out.mono HB6.out.size).trans (HG5.out.toBelow (by rw [World.size_alloc]; have := HB6.out.size; omega) (fun g e => by have := HOL.out.from e; omega)))⟩
      case measure => simp [intOf]; omega
    · obtain rfl : j = st.plan.parts.length := by omega
      rw [stayTo_all] at HSS
      obtain ⟨fk, hko, hkn, hkm⟩ := HSS.out.toOw'
      have hkb : b ∉ fk := fun hm => by
        rcases hkm b hm with e | e
        · exact HAP.out e
        · cases e
      have HKO := hide hko
      have hkl := hkn.lt
      obtain ⟨As, cs, es⟩ := HSS.out.form
      have es := es.symm
      injection es with es1 es2 es3
      subst es1 es2 es3
      have HW1 := hide (show WBox wr b none 0 0 [] [] from ⟨HBX.out, OwS.nil _ _ _ _ _⟩)
      have hwb : w.heap.size ≤ b := by omega
      have hrb1 : w.heap.size ≠ b := by omega
      have hrb2 : w.heap.size + 1 ≠ b := by omega
      clear hko hkn hkm HSS HBX HAP hlt
      have z3 := HZ.out.cell 3
      have zl := HZ.out.lt
      go_wp2_with fail
      refine (HSN.out wr HB.out).mono ?_
      rintro e w4 ⟨rfl, hb4⟩
      have HW4 := hide (HW1.out.below hb4)
      have HB4 := hide (HB.out.trans (hb4.mono HB.out.size))
      have HR4 := hide (HR.out.below hb4 HR.out.lt)
      have HZ4 := hide (HZ.out.below hb4 HZ.out.lt)
      have HK4 := hide (HKO.out.below hb4 hkl)
      have hkl4 := hkl.mono hb4.size
      clear hb4 HW1 HB HR HZ HKO hkl z3 zl HSN
      go_wp2_with fail
      refine (add_out w4 b none 0 0 [] [] HW4.out 3 (segName st.plan.open_) ⟨#[]⟩ (by decide) (by omega) (Nat.zero_le _) (by simp)).mono ?_
      rintro e w5 ⟨rfl, A5, n5, c5, us5, hw5, hx5⟩
      have HW5 := hide (show WBox w5 b A5 n5 c5 [wOf 3 (segName st.plan.open_)] us5 from hw5)
      have HB5 := hide (HB4.out.trans (hx5.toBelow HB4.out.size hwb (fun g e => by cases e)))
      have HR5 := hide (hx5.row HR4.out hrb1 (fun e => by cases e))
      have HZ5 := hide (hx5.row HZ4.out hrb2 (fun e => by cases e))
      have HK5 := hide (hx5.ow HK4.out hkl4 hkb (fun g e => by cases e))
      have hkl5 := hkl4.mono hx5.size
      have hks := hx5.apart hkl4 (fun g e => by cases e)
      have hown : ∀ g, (Value.slice A5 n5 c5).ownBlock = some g → w2.heap.size ≤ g := fun g e => by have := hw5.from g e; omega
      clear hw5 hx5 HW4 HB4 HR4 HZ4 HK4 hkl4
      have d0 := HR5.out.cell 0
      have d1 := HR5.out.cell 1
      have d2 := HR5.out.cell 2
      have ld := HR5.out.lt
      go_wp2_with fail
      refine (HTH.out w5 HB5.out).mono ?_
      rintro e w6 ⟨v, us, rfl, hs, hb6⟩
      obtain ⟨Aq, cq, rfl⟩ := hs.form
      obtain ⟨fq, hq, hqn, _⟩ := hs.toOw'
      rw [← HSH.out] at hq
      rw [← HSH.out]
      have HQ := hide hq
      have HQL := hide hqn.lt
      have HQB := hide (hqn.out HW5.out.box.lt)
      have hqm := hq.nlen
      unfold maxLen at hqm
      have HW6 := hide (HW5.out.below hb6)
      have HB6 := hide (HB5.out.trans (hb6.mono HB5.out.size))
      have HZ6 := hide (HZ5.out.below hb6 HZ5.out.lt)
      have HK6 := hide (HK5.out.below hb6 hkl5)
      have hkl6 := hkl5.mono hb6.size
      have HQO := hide (fun (g : Nat) (e : (Value.slice A5 n5 c5).ownBlock = some g) => show g ∉ fq from hqn.out (HW5.out.own.lt g e))
      clear hs hq hqn hb6 d0 d1 d2 ld HTH HR5 HB5 HW5 HZ5 HK5 hkl5
      go_wp2
      go_loopw [47] (fun i wr => ∃ (j : Nat) (A : Option Addr) (n c : Nat) (us : List Value), i = .int .i64 (j : Int) ∧ j ≤ d.shown.length ∧ WBox wr b A n c (sweep (d.shown.take j) st) us ∧ Ow wr (.s 1 d.shown.length (d.shown.flatMap strC)) (.slice Aq d.shown.length cq) fq ∧ Lt fq wr.heap.size ∧ (∀ g, (Value.slice A n c).ownBlock = some g → g ∉ fq) ∧ Ow wr (.s 1 (stays st).length ((stays st).flatMap strC)) (.slice As (stays st).length cs) fk ∧ Lt fk wr.heap.size ∧ (∀ g, (Value.slice A n c).ownBlock = some g → g ∉ fk) ∧ (Value.slice A n c).ownBlock ≠ some (w.heap.size + 1) ∧ Row wr (w.heap.size + 1) 33 [.int .i64 st.code, .int .i64 st.num, .slice Ap st.plan.parts.length cp, .int .i64 st.plan.open_, .int .i64 st.plan.first, .int .i64 st.size, .bool st.torn, .int .i64 st.next, .slice Ar st.records.length cr] ∧ Below w.heap.size w wr) (fun i _ => d.shown.length - (intOf i).toNat)
      case atStart => exact ⟨0, _, _, _, _, rfl, Nat.zero_le _, HW6.out, HQ.out, HQL.out, HQO.out, HK6.out, hkl6, hks, (fun e => by have := hown _ e; omega), HZ6.out, HB6.out⟩
      case round =>
        clear HW6 HQ HQL HQO HK6 hkl6 hks HZ6 HB6 hown
        obtain ⟨j, A, n, c, us, rfl, hj, how, hoq, hlq, hno, hok, hlk, hnk, hnz, hrz, hbw⟩ := hrel
        have HW := hide how
        have HOQ := hide hoq
        have HNO := hide hno
        have HOK := hide hok
        have HNK := hide hnk
        have HNZ := hide hnz
        have HZ := hide hrz
        have HB := hide hbw
        clear how hoq hno hok hnk hnz hrz hbw
        by_cases hlt : j < d.shown.length
        · obtain ⟨g, off, rfl, hgm, hcl, hsz⟩ := strs_at HOQ.out hlt
          have hgw := hlq _ hgm
          have hji : (j : Int) < (d.shown.length : Int) := by omega
          have hx8 := Disk.shown_size (d := d) (List.getElem_mem hlt)
          have HSY := hide (sweep_yes d.shown st j hlt)
          have HSX := hide (sweep_no d.shown st j hlt)
          have hsl1 := sweep_len (d.shown.take j) st
          rw [List.length_take] at hsl1
          generalize d.shown[j] = x at *
          go_wp2_with fail
          refine (containsStr_any _ _ _ _ _ _ _ HOK.out).mono ?_
          rintro e w7 ⟨rfl, rfl⟩
          by_cases hm : tb (x ∈ stays st) = true
          · have HY1 := hide (HSY.out hm).1
            rw [hm]
            clear hm HSY HSX
            go_wp2
            go_roundw
            case rel => exact ⟨j + 1, A, n, c, us, by go_num, by omega, by rw [HY1.out]; exact HW.out, HOQ.out, hlq, HNO.out, HOK.out, hlk, HNK.out, HNZ.out, HZ.out, HB.out⟩
            case measure => simp [intOf]; omega
          · have hmf : tb (x ∈ stays st) = false := by simpa using hm
            have HY1 := hide (HSX.out hmf).1
            rw [hmf]
            clear hm hmf HSY HSX
            generalize sweep (d.shown.take j) st = K at *
            go_wp2_with fail
            refine (add_out wr b A n c K us HW.out 4 x ⟨#[]⟩ (by decide) (by omega) (Nat.zero_le _) (by omega)).mono ?_
            rintro e w8 ⟨rfl, A8, n8, c8, us8, hw8, hx8'⟩
            have HW8 := hide hw8
            have HX8 := hide hx8'
            have HFR := hide HW.out.from
            clear hw8 hx8'
            go_wp2
            go_roundw
            case rel =>
              have hnz8 : (Value.slice A8 n8 c8).ownBlock ≠ some (w.heap.size + 1) := fun e => by
                rcases HX8.out.at' with h | ⟨g2, h, h3⟩
                · exact HNZ.out (h ▸ e)
                · rw [h] at e
                  injection e with e
                  have := HZ.out.lt
                  omega
              exact ⟨j + 1, A8, n8, c8, us8, by go_num, by omega, by rw [HY1.out]; exact HW8.out, HX8.out.ow HOQ.out hlq HQB.out HNO.out, hlq.mono HX8.out.size, HX8.out.apart hlq HNO.out, HX8.out.ow HOK.out hlk hkb HNK.out, hlk.mono HX8.out.size, HX8.out.apart hlk HNK.out, hnz8, HX8.out.row HZ.out hrb2 HNZ.out, HB.out.trans (HX8.out.toBelow HB.out.size hwb (fun g e => by have := HFR.out g e; omega))⟩
            case measure => simp [intOf]; omega
        · obtain rfl : j = d.shown.length := by omega
          have hsl1 := sweep_len d.shown st
          have HSE := hide (d.swept_eq st)
          rw [List.take_length] at HW
          generalize sweep d.shown st = K at *
          go_wp2_with fail
          refine (add_out wr b A n c K us HW.out 5 ⟨#[]⟩ ⟨#[]⟩ (by decide) (Nat.zero_le _) (Nat.zero_le _) (by omega)).mono ?_
          rintro e w8 ⟨rfl, A8, n8, c8, us8, hw8, hx8⟩
          have HW8 := hide (show WBox w8 b A8 n8 c8 (d.swept st) us8 from by rw [HSE.out]; exact hw8)
          have HFR := hide HW.out.from
          have HB8 := hide (HB.out.trans (hx8.toBelow HB.out.size hwb (fun g e => by have := HFR.out g e; omega)))
          have HZ8 := hide (hx8.row HZ.out hrb2 HNZ.out)
          have HK8 := hide (hx8.ow HOK.out hlk hkb HNK.out)
          have hlk8 := hlk.mono hx8.size
          have hwl : (d.swept st).length ≤ 2000000 := by rw [HSE.out, List.length_append]; simp only [List.length_singleton]; omega
          clear hw8 hx8 HSE HW HB HZ HOK hlk HNK HOQ hlq HNO HNZ HFR
          obtain ⟨S, hTS⟩ : ∃ S, d.swept st = S := ⟨_, rfl⟩
          rw [hTS] at HW8 hwl
          have HTS := hide hTS
          clear hTS
          have z0 := HZ8.out.cell 0
          have z1 := HZ8.out.cell 1
          have z2 := HZ8.out.cell 2
          have z3 := HZ8.out.cell 3
          have z4 := HZ8.out.cell 4
          have z5 := HZ8.out.cell 5
          have z6 := HZ8.out.cell 6
          have z7 := HZ8.out.cell 7
          have z8 := HZ8.out.cell 8
          have zl := HZ8.out.lt
          simp only [List.getElem?_cons_succ, List.getElem?_cons_zero] at z6
          have x0 := HW8.out.box.cell 0
          have xl := HW8.out.box.lt
          cases htn : st.torn with
          | false =>
            have HM := hide ((d.mended_whole htn).trans (by rw [HTS.out]))
            obtain ⟨fr, ho, hn⟩ := HW8.out.own.toOw
            have HF := hide ho
            have HFN := hide (hn.mono (by omega : w.heap.size ≤ b + 1))
            rw [htn] at z6
            clear ho hn htn
            go_wp2
            go_ret3
            exact wr3_yes HM.out HF.out HFN.out HB8.out
          | true =>
            have HM := hide ((d.mended_torn htn).trans (by rw [HTS.out]))
            have HFR := hide HW8.out.from
            have hcx := close_any w8 b A8 n8 c8 S us8 HW8.out (stays st) As (stays st).length cs fk HK8.out hlk8 (stays_sizes HWH.out) st _ _ (HSC.out.below HB8.out hf1) (hf1.mono HB8.out.size) (fun hm => by have := hf1 _ hm; omega) (fun g e hm => by have h1 := hf1 _ hm; have h2 := HFR.out g e; omega) hpl (by omega) (fun ht hp => closed_ok HWH.out (fun x hx => hx) ht hp) hwl (HLY.out w8 HB8.out) (by omega)
            rw [htn] at hcx z6
            have HCX := hide hcx
            clear hcx htn
            cases hcw : closeW (stays st) st with
            | none =>
              have HMN := hide (HM.out.trans (by rw [hcw]))
              have HCY := hide (HCX.out.mono (fun e W' h => show e = .returned (.bool false) ∧ Below w8.heap.size w8 W' from by
                have h2 := h
                rw [hcw] at h2
                exact h2))
              clear HM HCX hcw
              go_wp2_with fail
              refine HCY.out.mono ?_
              rintro e w9 ⟨rfl, hb9⟩
              have HB9 := hide (HB8.out.trans (hb9.mono HB8.out.size))
              clear hb9
              go_wp2
              go_ret3
              exact wr3_no HMN.out (Ow.nil_ _ _ _) (New.nil _ _) HB9.out
            | some L =>
              have HMN := hide (HM.out.trans (by rw [hcw]))
              have HCY := hide (HCX.out.mono (fun e W' h => show e = .returned (.bool true) ∧ AddOut w8 b (.slice A8 n8 c8) (S ++ L) W' from by
                have h2 := h
                rw [hcw] at h2
                exact h2))
              clear HM HCX hcw
              go_wp2_with fail
              refine HCY.out.mono ?_
              rintro e w9 ⟨rfl, A9, n9, c9, us9, hw9, hx9⟩
              have HB9 := hide (HB8.out.trans (hx9.toBelow HB8.out.size hwb (fun g e => by have := HFR.out g e; omega)))
              have x0 := hw9.box.cell 0
              have xl := hw9.box.lt
              obtain ⟨fr, ho, hn⟩ := hw9.own.toOw
              have HF := hide ho
              have HFN := hide (hn.mono (by omega : w.heap.size ≤ b + 1))
              clear ho hn hw9 hx9
              go_wp2
              go_ret3
              exact wr3_yes HMN.out HF.out HFN.out HB9.out
end Go.Proofs.YtddjgbhkfdpffaaGreatDoor
set_option linter.unusedVariables false
set_option linter.unusedSimpArgs false
namespace Go.Proofs.YtddjgbhkfdpffaaGreatDoor
open Go.ChangeShapes Go.WideShapes Go.ChangeAt Go.RowKit

set_option maxRecDepth 100000 in
set_option maxHeartbeats 8000000 in
theorem writes_any (d : Disk) (us0 : List Value) (fp0 : List Nat) (a : LogAct) (us1 : List Value) (fp1 : List Nat) (w : World) (h : OwC w d.cells us0 fp0) (hf : Lt fp0 w.heap.size) (hbk : d.bulk ≤ 1048576) (ha : OwC w a.cells us1 fp1) (hfa : Lt fp1 w.heap.size) (hba : a.bulk ≤ 1048576) (hok : tb d.ok = true) (hl : Lay w) (hw7 : 7 < w.heap.size) :
    Calls Tryz.prog 60 #[.agg us0.toArray, .agg us1.toArray] w (WrRet w (d.writes a).1 (d.writes a).2.1 (d.writes a).2.2) := by
  have HOC := hide h
  obtain ⟨A1, c1, A2, c2, A3, c3, f1, f2, f3, rfl, o1, o2, o3, rfl⟩ := h.oDisk
  obtain ⟨Ak, ck, fk, rfl, wk0, ws0, wa0, wm0, oK, rfl⟩ := ha.oLogAct
  have hab := a.bulk_eq
  have hds : a.data.size ≤ 1048576 := by omega
  have HLY := hide (fun (W : World) (hb : Below w.heap.size w W) => And.intro (hl.low hb hw7) (Nat.lt_of_lt_of_le hw7 hb.size))
  have HOP := hide (fun (W : World) (hb : Below w.heap.size w W) => openLog_any d _ _ W (HOC.out.below hb hf) (hf.up hb) hbk hok (HLY.out W hb).1 (HLY.out W hb).2)
  have HBI := hide (fun (W : World) (hb : Below w.heap.size w W) => begin_any d _ _ W (HOC.out.below hb hf) (hf.up hb) hbk hok (HLY.out W hb).1 (HLY.out W hb).2)
  have HMD := hide (fun (h0 : d.open_.code = 0) (us : List Value) (fs : List Nat) (W : World) (hb : Below w.heap.size w W) (hs : OwC W d.open_.cells us fs) (hl2 : Lt fs W.heap.size) => mend_any d _ _ d.open_ us fs W (HOC.out.below hb hf) (hf.up hb) hbk hs hl2 (open_whole h0) (HLY.out W hb).1 (HLY.out W hb).2)
  have HFN := hide (fun (W : World) (hb : Below w.heap.size w W) => fileNames_any d _ _ W (HOC.out.below hb hf) (hf.up hb) (by have := (ok_files' hok).2; omega))
  have HFZ := hide (file_sizes hok)
  have HCLX := hide (fun (us : List Value) (fs : List Nat) (b : Nat) (V : World) (A : Option Addr) (n c : Nat) (us8 : List Value) (HWB : WBox V b A n c [wOf 3 (segName d.open_.plan.open_)] us8) (hb : Below w.heap.size w V) (hwb : w.heap.size ≤ b) (hlb : Lt fs b) (An : Option Addr) (nn cn : Nat) (uv : List Value) (hv : OwS V w.heap.size 9 1 strC (.slice An nn cn) d.fileList uv []) (ho : OwC V d.open_.cells us fs) (hwh : d.Whole d.open_) => show Calls Tryz.prog 110 #[.pointer (some ⟨b, 0, none⟩), .slice An nn cn, .agg us.toArray] V (CloseOut V b (.slice A n c) [wOf 3 (segName d.open_.plan.open_)] (closeW d.fileList d.open_)) from by
    obtain ⟨fn, hn, hnn⟩ := hv.toOw
    exact close_any V b A n c _ us8 HWB d.fileList An nn cn fn hn hnn.lt HFZ.out d.open_ us fs ho (hlb.mono (Nat.le_of_lt HWB.box.lt)) (fun hm => by have := hlb _ hm; omega) (fun g e hm => by have h1 := hlb _ hm; have h2 := HWB.from g e; omega) hwh.plan.1 (by have := hwh.num; omega) (fun ht hp => closed_ok hwh (fun x hx => Disk.shown_file hok (hwh.mem x hx)) ht hp) (by simp) (HLY.out V hb).1 (Nat.lt_of_lt_of_le hw7 hwb))
  have hsg := open_seg d
  have hsn := names_size d.open_.plan.open_ hsg
  have hdz := dec_size d.open_.plan.open_ (by omega) (by omega)
  have HSG := hide (fun (W : World) (hb : Below w.heap.size w W) => segmentName_any d.open_.plan.open_ hsg.1 hsg.2 W (HLY.out W hb).1)
  have HWH := hide (fun h : d.open_.code = 0 => open_whole h)
  have HC1 := hide (fun h h2 he => wr_birth0 (d := d) (a := a) h h2 he)
  have HC1' := hide (fun l h h2 he => wr_birth1 (d := d) (a := a) (l := l) h h2 he)
  have HC2 := hide (fun h h2 => wr_code (d := d) (a := a) h h2)
  have HC3 := hide (fun h h2 he => wr_mend0 (d := d) (a := a) h h2 he)
  have HC3' := hide (fun l h h2 he => wr_mend1 (d := d) (a := a) (l := l) h h2 he)
  have HC4 := hide (fun h h2 => wr_kind (d := d) (a := a) h h2)
  have HC5 := hide (fun h h2 h3 h4 => wr_torn (d := d) (a := a) h h2 h3 h4)
  have HC6 := hide (fun h h2 h3 h4 h5 => wr_sync (d := d) (a := a) h h2 h3 h4 h5)
  have HC7 := hide (fun h h2 h3 h4 h5 he => wr_roll0 (d := d) (a := a) h h2 h3 h4 h5 he)
  have HC7' := hide (fun l h h2 h3 h4 h5 he => wr_roll1 (d := d) (a := a) (l := l) h h2 h3 h4 h5 he)
  have HC8 := hide (fun h h2 h3 h4 h5 h6 => wr_large (d := d) (a := a) h h2 h3 h4 h5 h6)
  have HC9 := hide (fun h h2 h3 h4 h5 h6 h7 => wr_full (d := d) (a := a) h h2 h3 h4 h5 h6 h7)
  have HC0 := hide (fun h h2 h3 h4 h5 h6 h7 => wr_add (d := d) (a := a) h h2 h3 h4 h5 h6 h7)
  clear h ha o1 o2 o3 oK wk0 ws0 wa0 wm0 hab hok hl HLY HFZ
  generalize d.writes a = R at *
  go_enter Tryz.func60, Tryz.ntmps60
  go_upto_region 1 with fail
  generalize hwA : w.alloc (.cells #[.slice A1 d.files.length c1, .slice A2 d.names.length c2, .slice A3 d.moves.length c3] 38) = wA
  have hA : Below w.heap.size w wA := by rw [← hwA]; exact (Below.refl _ _).alloc (Nat.le_refl _) _
  have hsA : wA.heap.size = w.heap.size + 1 := by rw [← hwA]; simp
  have RA : Row wA w.heap.size 38 [.slice A1 d.files.length c1, .slice A2 d.names.length c2, .slice A3 d.moves.length c3] := by rw [← hwA]; exact Row.new w _ _
  try simp only [hsA]
  clear hwA
  generalize hwB : wA.alloc (.cells #[.int .i64 a.kind, .string a.data, .bool a.cuts, .int .i64 a.after, .int .i64 a.moves, .slice Ak a.keep.length ck] 52) = wB
  have hAB : Below wA.heap.size wA wB := by rw [← hwB]; exact (Below.refl _ _).alloc (Nat.le_refl _) _
  have RB : Row wB (w.heap.size + 1) 52 [.int .i64 a.kind, .string a.data, .bool a.cuts, .int .i64 a.after, .int .i64 a.moves, .slice Ak a.keep.length ck] := by rw [← hwB, ← hsA]; exact Row.new wA _ _
  have HB1 := hide (hA.trans (hAB.mono hA.size))
  have HR1 := hide (RA.below hAB RA.lt)
  have HA1 := hide RB
  clear hwB hA hAB hsA RA RB
  have d0 := HR1.out.cell 0
  have d1 := HR1.out.cell 1
  have d2 := HR1.out.cell 2
  have ld := HR1.out.lt
  go_wp2_with fail
  refine (HOP.out wB HB1.out).mono ?_
  rintro e w2 ⟨us, fs, rfl, ho, hn, hb2⟩
  have HB2 := hide (HB1.out.trans (hb2.mono HB1.out.size))
  have HR2 := hide (HR1.out.below hb2 ld)
  have HA2 := hide (HA1.out.below hb2 HA1.out.lt)
  clear hb2 HB1 HR1 HA1 d0 d1 d2 ld HOP
  generalize d.open_ = st at *
  obtain ⟨Ap, cp, Ar, cr, g1, g2, rfl, w0, w1, oA, w3, w4, w5, w7, oB, rfl⟩ := ho.oLogState
  have HSO := hide ho
  have HSL := hide hn.lt
  clear ho hn w0 w1 oA w3 w4 w5 w7 oB
  go_upto_region 2 with fail
  generalize hwD : w2.alloc (.cells #[.int .i64 st.code, .int .i64 st.num, .slice Ap st.plan.parts.length cp, .int .i64 st.plan.open_, .int .i64 st.plan.first, .int .i64 st.size, .bool st.torn, .int .i64 st.next, .slice Ar st.records.length cr] 33) = wD
  have hD : Below w2.heap.size w2 wD := by rw [← hwD]; exact (Below.refl _ _).alloc (Nat.le_refl _) _
  have HZ := hide (show Row wD w2.heap.size 33 [.int .i64 st.code, .int .i64 st.num, .slice Ap st.plan.parts.length cp, .int .i64 st.plan.open_, .int .i64 st.plan.first, .int .i64 st.size, .bool st.torn, .int .i64 st.next, .slice Ar st.records.length cr] from by rw [← hwD]; exact Row.new w2 _ _)
  have HB := hide (HB2.out.trans (hD.mono HB2.out.size))
  have HR := hide (HR2.out.below hD HR2.out.lt)
  have HA := hide (HA2.out.below hD HA2.out.lt)
  have HO := hide (HSO.out.below hD HSL.out)
  have HL := hide (HSL.out.mono hD.size)
  obtain ⟨bs, hbs⟩ : ∃ b, b = w2.heap.size := ⟨_, rfl⟩
  rw [← hbs] at HZ ⊢
  clear hwD hD HB2 HR2 HA2 HSO HSL hbs
  have z3 := HZ.out.cell 3
  have zl := HZ.out.lt
  go_wp2_with fail
  refine (HSG.out wD HB.out).mono ?_
  rintro e w5 ⟨rfl, hb5⟩
  have HB5 := hide (HB.out.trans (hb5.mono HB.out.size))
  have HR5 := hide (HR.out.below hb5 HR.out.lt)
  have HA5 := hide (HA.out.below hb5 HA.out.lt)
  have HZ5 := hide (HZ.out.below hb5 HZ.out.lt)
  have HO5 := hide (HO.out.below hb5 HL.out)
  have HL5 := hide (HL.out.mono hb5.size)
  clear hb5 HB HR HA HZ HO HL z3 zl HSG
  have z0 := HZ5.out.cell 0
  have zl := HZ5.out.lt
  have a0 := HA5.out.cell 0
  have al := HA5.out.lt
  by_cases h1 : st.code = 1 ∧ a.kind = 4
  · obtain ⟨h1c, h1k⟩ := h1
    have HC := hide (HC1.out h1c h1k)
    have HC' := hide (fun l => HC1'.out l h1c h1k)
    have HBX := hide (HBI.out w5 HB5.out)
    have d0 := HR5.out.cell 0
    have d1 := HR5.out.cell 1
    have d2 := HR5.out.cell 2
    have ld := HR5.out.lt
    simp only [List.getElem?_cons_zero] at z0 a0
    rw [h1c] at z0
    rw [h1k] at a0
    clear h1c h1k HC1 HC1' HC2 HC3 HC3' HC4 HC5 HC6 HC7 HC7' HC8 HC9 HC0 HMD HBI HWH
    go_wp2_with fail
    cases hbi : d.birth with
    | none =>
      refine (HBX.out.mono (fun _ _ h => wr3_none hbi h)).mono ?_
      rintro e w6 ⟨v, fv, rfl, hov, hnv, hb6⟩
      have HC := hide (HC.out hbi)
      have HF := hide hov
      have HN := hide (hnv.mono HB5.out.size)
      have HB6 := hide (HB5.out.trans (hb6.mono HB5.out.size))
      clear hov hnv hb6 hbi
      go_wp2
      go_ret3
      exact wrRet_of HC.out HF.out HN.out HB6.out
    | some L =>
      refine (HBX.out.mono (fun _ _ h => wr3_some hbi h)).mono ?_
      rintro e w6 ⟨v, fv, rfl, hov, hnv, hb6⟩
      have HC := hide (HC'.out L hbi)
      have HF := hide hov
      have HN := hide (hnv.mono HB5.out.size)
      have HB6 := hide (HB5.out.trans (hb6.mono HB5.out.size))
      clear hov hnv hb6 hbi
      go_wp2
      go_ret3
      exact wrRet_of HC.out HF.out HN.out HB6.out
  by_cases h0 : st.code = 0
  rotate_left
  · have HC := hide (HC2.out h0 h1)
    have h0i : ¬ (st.code = 0) := h0
    clear HC1 HC1' HC2 HC3 HC3' HC4 HC5 HC6 HC7 HC7' HC8 HC9 HC0 HMD HBI HWH
    by_cases h1c : st.code = 1
    · have h1k : ¬ (a.kind = 4) := fun k => h1 ⟨h1c, k⟩
      simp only [List.getElem?_cons_zero] at z0
      rw [h1c] at z0
      rw [h1c] at HC
      clear h0i h0 h1 h1c
      go_wp2_with fail
      go_quiet (fail)
      go_wp2
      go_ret3
      exact wrRet_of HC.out (Ow.nil_ _ _ _) (New.nil _ _) (below_drewN HB5.out _)
    · clear h1 h0
      go_wp2_with fail
      go_quiet (fail)
      go_wp2
      go_ret3
      exact wrRet_of HC.out (Ow.nil_ _ _ _) (New.nil _ _) (below_drewN HB5.out _)
  have HMX := hide (HMD.out h0)
  have HWX := hide (HWH.out h0)
  have HC3 := hide (HC3.out h0)
  have HC3' := hide (fun l => HC3'.out l h0)
  have HC4 := hide (HC4.out h0)
  have HC5 := hide (HC5.out h0)
  have HC6 := hide (HC6.out h0)
  have HC7 := hide (HC7.out h0)
  have HC7' := hide (fun l => HC7'.out l h0)
  have HC8 := hide (HC8.out h0)
  have HC9 := hide (HC9.out h0)
  have HC0 := hide (HC0.out h0)
  simp only [List.getElem?_cons_zero] at z0
  rw [h0] at z0
  clear h0 h1 HC1 HC1' HC2 HMD HWH HBI
  go_wp2_with fail
  refine (inRange_any _ _ _ _).mono ?_
  rintro e w6 ⟨rfl, rfl⟩
  by_cases hkr : 1 ≤ a.kind ∧ a.kind ≤ 4
  rotate_left
  · have HC := hide (HC4.out hkr)
    have HT := hide (tb_false hkr)
    clear HC3 HC3' HC4 HC5 HC6 HC7 HC7' HC8 HC9 HC0 HMX HWX hkr
    rw [HT.out]
    go_wp2
    go_ret3
    exact wrRet_of HC.out (Ow.nil_ _ _ _) (New.nil _ _) HB5.out
  have HT := hide (tb_true hkr)
  have HKR := hide hkr
  rw [HT.out]
  clear z0 zl
  by_cases hk4 : a.kind = 4
  · have HC := hide (HC3.out hk4)
    have HC' := hide (fun l => HC3'.out l hk4)
    have HMY := hide (HMX.out _ _ w5 HB5.out HO5.out HL5.out)
    have d0 := HR5.out.cell 0
    have d1 := HR5.out.cell 1
    have d2 := HR5.out.cell 2
    have ld := HR5.out.lt
    have z0 := HZ5.out.cell 0
    have z1 := HZ5.out.cell 1
    have z2 := HZ5.out.cell 2
    have z3 := HZ5.out.cell 3
    have z4 := HZ5.out.cell 4
    have z5 := HZ5.out.cell 5
    have z6 := HZ5.out.cell 6
    have z7 := HZ5.out.cell 7
    have z8 := HZ5.out.cell 8
    have zl := HZ5.out.lt
    simp only [List.getElem?_cons_zero] at a0
    rw [hk4] at a0
    clear HC3 HC3' HC4 HC5 HC6 HC7 HC7' HC8 HC9 HC0 HMX HWX hk4 hkr
    go_wp2_with fail
    cases hbi : d.mended st with
    | none =>
      refine (HMY.out.mono (fun _ _ h => wr3_none hbi h)).mono ?_
      rintro e w6 ⟨v, fv, rfl, hov, hnv, hb6⟩
      have HC := hide (HC.out hbi)
      have HF := hide hov
      have HN := hide (hnv.mono HB5.out.size)
      have HB6 := hide (HB5.out.trans (hb6.mono HB5.out.size))
      clear hov hnv hb6 hbi
      go_wp2
      go_ret3
      exact wrRet_of HC.out HF.out HN.out HB6.out
    | some L =>
      refine (HMY.out.mono (fun _ _ h => wr3_some hbi h)).mono ?_
      rintro e w6 ⟨v, fv, rfl, hov, hnv, hb6⟩
      have HC := hide (HC'.out L hbi)
      have HF := hide hov
      have HN := hide (hnv.mono HB5.out.size)
      have HB6 := hide (HB5.out.trans (hb6.mono HB5.out.size))
      clear hov hnv hb6 hbi
      go_wp2
      go_ret3
      exact wrRet_of HC.out HF.out HN.out HB6.out
  have HK4 := hide hk4
  have z6 := HZ5.out.cell 6
  have zl := HZ5.out.lt
  simp only [List.getElem?_cons_succ, List.getElem?_cons_zero] at z6
  cases htn : st.torn with
  | true =>
    have HC := hide (HC5.out hkr hk4 htn)
    rw [htn] at z6
    clear HC3 HC3' HC4 HC5 HC6 HC7 HC7' HC8 HC9 HC0 HMX HWX hkr htn
    go_wp2
    go_ret3
    exact wrRet_of HC.out (Ow.nil_ _ _ _) (New.nil _ _) HB5.out
  | false =>
    have HTN := hide htn
    rw [htn] at z6
    clear HC3 HC3' HC4 HC5 HMX htn
    go_upto_region 14 with fail
    generalize hwF : w5.alloc (.cells #[.slice none 0 0] 148) = wF
    have hF : Below w5.heap.size w5 wF := by rw [← hwF]; exact (Below.refl _ _).alloc (Nat.le_refl _) _
    have HBX := hide (show WBox wF w5.heap.size none 0 0 [] [] from ⟨by rw [← hwF]; exact Row.new w5 _ _, OwS.nil _ _ _ _ _⟩)
    have HB6 := hide (HB5.out.trans (hF.mono HB5.out.size))
    have HR6 := hide (HR5.out.below hF HR5.out.lt)
    have HA6 := hide (HA5.out.below hF HA5.out.lt)
    have HZ6 := hide (HZ5.out.below hF HZ5.out.lt)
    have HO6 := hide (HO5.out.below hF HL5.out)
    have HL6 := hide (HL5.out.mono hF.size)
    have hwb : w.heap.size ≤ w5.heap.size := HB5.out.size
    have hbs5 : bs < w5.heap.size := HZ5.out.lt
    have hab5 : w.heap.size + 1 < w5.heap.size := HA5.out.lt
    obtain ⟨b, hb⟩ : ∃ b, b = w5.heap.size := ⟨_, rfl⟩
    have hlb : Lt (g1 ++ g2) b := by rw [hb]; exact HL5.out
    rw [← hb] at HBX hwb hbs5 hab5 ⊢
    clear hwF hF hb HB5 HR5 HA5 HZ5 HO5 HL5 a0 al z6 zl
    have a0 := HA6.out.cell 0
    have al := HA6.out.lt
    have hsz : (segName st.plan.open_).size ≤ 30 := hsn.1
    by_cases hk1 : a.kind = 1
    · have HK1 := hide hk1
      have a1 := HA6.out.cell 1
      simp only [List.getElem?_cons_zero] at a0
      rw [hk1] at a0
      clear hk1 hk4 hkr HC6 HC7 HC7'
      by_cases hlg : 2000 < a.data.size
      · have HC := hide (HC8.out HKR.out HK4.out HTN.out HK1.out hlg)
        have hli : (2000 : Int) < (a.data.size : Int) := by omega
        clear HC8 HC9 HC0
        go_wp2
        go_ret3
        exact wrRet_of HC.out (Ow.nil_ _ _ _) (New.nil _ _) HB6.out
      have hli : ¬ ((2000 : Int) < (a.data.size : Int)) := by omega
      have hws := HWX.out.size
      have hwn := HWX.out.next
      have hfs := st.plan.first_small HWX.out.plan
      have z5 := HZ6.out.cell 5
      have z7 := HZ6.out.cell 7
      have zl := HZ6.out.lt
      have hwr1 : IntKind.i64.wrap (st.size + 5) = st.size + 5 := wrapI _ (by omega) (by omega)
      have hwr2 : IntKind.i64.wrap (st.size + 5 + (a.data.size : Int)) = st.size + 5 + (a.data.size : Int) := wrapI _ (by omega) (by omega)
      by_cases hfull : 999999 < st.next ∨ 8000 < st.size + 5 + a.data.size
      · have HC := hide (HC9.out HKR.out HK4.out HTN.out HK1.out hlg hfull)
        clear HC8 HC9 HC0
        by_cases hfn : 999999 < st.next
        · clear hfull
          go_wp2
          go_ret3
          exact wrRet_of HC.out (Ow.nil_ _ _ _) (New.nil _ _) HB6.out
        · have hfz : (8000 : Int) < st.size + 5 + (a.data.size : Int) := hfull.resolve_left hfn
          clear hfull
          go_wp2
          go_ret3
          exact wrRet_of HC.out (Ow.nil_ _ _ _) (New.nil _ _) HB6.out
      have hfn : ¬ (999999 < st.next) := fun h => hfull (.inl h)
      have hfz : ¬ ((8000 : Int) < st.size + 5 + (a.data.size : Int)) := fun h => hfull (.inr h)
      have HC := hide (HC0.out HKR.out HK4.out HTN.out HK1.out hlg hfull)
      have hok : (LogRecord.mk st.next a.data).ok := ⟨by show (1 : Int) ≤ st.next; omega, by show st.next ≤ 999999; omega, by show a.data.size ≤ 2000; omega⟩
      have HFR := hide (fun W => implFrame_any st.next a.data W hok)
      have hbz : (LogRecord.mk st.next a.data).bytes.size ≤ 2005 := by
        unfold LogRecord.bytes
        rw [ByteArray.size_append]
        show 5 + a.data.size ≤ 2005
        omega
      obtain ⟨x, hx⟩ : ∃ x, (LogRecord.mk st.next a.data).bytes = x := ⟨_, rfl⟩
      rw [hx] at HC HFR hbz
      have hbx := hbz
      clear hfull HC8 HC9 HC0 hok hx hbz
      go_wp2_with fail
      refine (HFR.out wF).mono ?_
      rintro e w6 ⟨rfl, hb6⟩
      have HW7 := hide (HBX.out.below hb6)
      have HB7 := hide (HB6.out.trans (hb6.mono HB6.out.size))
      have HZ7 := hide (HZ6.out.below hb6 HZ6.out.lt)
      clear hb6 HBX HB6 HZ6 z5 z7 zl a0 a1 al HFR
      go_wp2_with fail
      refine (add_out w6 b none 0 0 [] [] HW7.out 2 (segName st.plan.open_) x (by decide) (by omega) (by omega) (by simp)).mono ?_
      rintro e w7 ⟨rfl, A8, n8, c8, us8, hw8, hx8⟩
      have HB8 := hide (HB7.out.trans (hx8.toBelow HB7.out.size hwb (fun g e => by cases e)))
      have hz8 := hx8.row HZ7.out (by omega) (fun e => by cases e)
      have z7 := hz8.cell 7
      have zl := hz8.lt
      have x0 := hw8.box.cell 0
      have xl := hw8.box.lt
      obtain ⟨fr, ho, hn⟩ := hw8.own.toOw
      have HF := hide ho
      have HFN := hide (hn.mono (by omega : w.heap.size ≤ b + 1))
      clear hw8 hx8 hz8 ho hn HW7 HB7 HZ7
      go_wp2_with fail
      go_quiet (fail)
      go_wp2
      go_ret3
      exact wrRet_of HC.out (HF.out.drewN _) (HFN.out.drewN _) (below_drewN HB8.out _)
    by_cases hk3 : a.kind = 3
    · have HC := hide (HC7.out HKR.out HK4.out HTN.out hk3)
      have HC' := hide (fun l => HC7'.out l HKR.out HK4.out HTN.out hk3)
      simp only [List.getElem?_cons_zero] at a0
      rw [hk3] at a0
      clear HC6 HC7 HC7' HC8 HC9 HC0 hk1 hk3 hk4 hkr
      go_wp2_with fail
      refine (add_out wF b none 0 0 [] [] HBX.out 3 (segName st.plan.open_) ⟨#[]⟩ (by decide) (by omega) (Nat.zero_le _) (by simp)).mono ?_
      rintro e w7 ⟨rfl, A8, n8, c8, us8, hw8, hx8⟩
      have HW8 := hide (show WBox w7 b A8 n8 c8 [wOf 3 (segName st.plan.open_)] us8 from hw8)
      have HB8 := hide (HB6.out.trans (hx8.toBelow HB6.out.size hwb (fun g e => by cases e)))
      have HR8 := hide (hx8.row HR6.out (by omega) (fun e => by cases e))
      have HZ8 := hide (hx8.row HZ6.out (by omega) (fun e => by cases e))
      have HO8 := hide (hx8.owc HO6.out HL6.out (fun hm => by have := hlb _ hm; omega) (fun g e => by cases e))
      have HL8 := hide (HL6.out.mono hx8.size)
      have hfr8 := hw8.from
      clear hw8 hx8 HBX HB6 HR6 HA6 HZ6 HO6 HL6 a0 al
      have d0 := HR8.out.cell 0
      have d1 := HR8.out.cell 1
      have d2 := HR8.out.cell 2
      have ld := HR8.out.lt
      have z0 := HZ8.out.cell 0
      have z1 := HZ8.out.cell 1
      have z2 := HZ8.out.cell 2
      have z3 := HZ8.out.cell 3
      have z4 := HZ8.out.cell 4
      have z5 := HZ8.out.cell 5
      have z6 := HZ8.out.cell 6
      have z7 := HZ8.out.cell 7
      have z8 := HZ8.out.cell 8
      have zl := HZ8.out.lt
      have hne0 : (Value.slice A8 n8 c8).ownBlock ≠ some w.heap.size := fun e => by have := hfr8 _ e; omega
      have hnes : (Value.slice A8 n8 c8).ownBlock ≠ some bs := fun e => by have := hfr8 _ e; omega
      have hb0 : w.heap.size ≠ b := by omega
      have hbs' : bs ≠ b := by omega
      have HCX := hide (fun (V : World) (hV : Below w7.heap.size w7 V) (A : Option Addr) (n c : Nat) (us : List Value) (hv : OwS V w7.heap.size 9 1 strC (.slice A n c) d.fileList us []) => HCLX.out _ _ b V A8 n8 c8 us8 (HW8.out.below hV) (HB8.out.trans (hV.mono HB8.out.size)) hwb hlb A n c us (hv.lower HB8.out.size) (HO8.out.below hV HL8.out) HWX.out)
      go_wp2_with fail
      cases hcw : closeW d.fileList st with
      | none =>
        have HCN := hide (HC.out hcw)
        have HCY := hide (fun V hV A n c us hv => (HCX.out V hV A n c us hv).mono (fun e W' h => show e = .returned (.bool false) ∧ Below V.heap.size V W' from by
          have h2 := h
          rw [hcw] at h2
          exact h2))
        clear HC HC' HCX hcw
        go_region_held3 (fun w' => w'.cell? ⟨w.heap.size, 0, none⟩ = some (.slice A1 d.files.length c1) ∧ w'.cell? ⟨w.heap.size, 1, none⟩ = some (.slice A2 d.names.length c2) ∧ w'.cell? ⟨w.heap.size, 2, none⟩ = some (.slice A3 d.moves.length c3) ∧ w'.cell? ⟨bs, 0, none⟩ = some (.int .i64 st.code) ∧ w'.cell? ⟨bs, 1, none⟩ = some (.int .i64 st.num) ∧ w'.cell? ⟨bs, 2, none⟩ = some (.slice Ap st.plan.parts.length cp) ∧ w'.cell? ⟨bs, 3, none⟩ = some (.int .i64 st.plan.open_) ∧ w'.cell? ⟨bs, 4, none⟩ = some (.int .i64 st.plan.first) ∧ w'.cell? ⟨bs, 5, none⟩ = some (.int .i64 st.size) ∧ w'.cell? ⟨bs, 6, none⟩ = some (.bool st.torn) ∧ w'.cell? ⟨bs, 7, none⟩ = some (.int .i64 st.next) ∧ w'.cell? ⟨bs, 8, none⟩ = some (.slice Ar st.records.length cr))
          (first | exact ⟨kcell2 d0 hbz ld, kcell2 d1 hbz ld, kcell2 d2 hbz ld, kcell2 z0 hbz zl, kcell2 z1 hbz zl, kcell2 z2 hbz zl, kcell2 z3 hbz zl, kcell2 z4 hbz zl, kcell2 z5 hbz zl, kcell2 z6 hbz zl, kcell2 z7 hbz zl, kcell2 z8 hbz zl⟩ | go_keep)
          (first
            | (go_at_call 110; refine (HCY.out _ hby _ _ _ _ hvs).mono ?_; rintro e w9 ⟨rfl, hb9⟩; have hbz : Below w7.heap.size w7 w9 := hby.trans (hb9.mono hby.size))
            | (go_at_call 111; refine (HFN.out _ (HB8.out.trans ((below_drewN (Below.refl _ w7) _).mono HB8.out.size))).mono ?_; rintro e w8 ⟨v, uv, rfl, hvs0, hb8⟩; obtain ⟨An, cn, rfl⟩ := hvs0.form; have hbz : Below w7.heap.size w7 w8 := (below_drewN (Below.refl _ w7) _).trans hb8; have hby := hbz; have hvs := hvs0))
        all_goals
          have HB9 := hide (HB8.out.trans (hbz.mono HB8.out.size))
          clear hbz hby hb8 hb9 hvs hvs0 z0 z1 z2 z3 z4 z5 z6 z7 z8 zl d0 d1 d2 ld HCY
          go_wp2
          go_ret3
          exact wrRet_of HCN.out (Ow.nil_ _ _ _) (New.nil _ _) HB9.out
      | some L =>
        have HCN := hide (HC'.out L hcw)
        have HCY := hide (fun V hV A n c us hv => (HCX.out V hV A n c us hv).mono (fun e W' h => show e = .returned (.bool true) ∧ AddOut V b (.slice A8 n8 c8) ([wOf 3 (segName st.plan.open_)] ++ L) W' from by
          have h2 := h
          rw [hcw] at h2
          exact h2))
        clear HC HC' HCX hcw
        go_region_held3 (fun w' => w'.cell? ⟨w.heap.size, 0, none⟩ = some (.slice A1 d.files.length c1) ∧ w'.cell? ⟨w.heap.size, 1, none⟩ = some (.slice A2 d.names.length c2) ∧ w'.cell? ⟨w.heap.size, 2, none⟩ = some (.slice A3 d.moves.length c3) ∧ w'.cell? ⟨bs, 0, none⟩ = some (.int .i64 st.code) ∧ w'.cell? ⟨bs, 1, none⟩ = some (.int .i64 st.num) ∧ w'.cell? ⟨bs, 2, none⟩ = some (.slice Ap st.plan.parts.length cp) ∧ w'.cell? ⟨bs, 3, none⟩ = some (.int .i64 st.plan.open_) ∧ w'.cell? ⟨bs, 4, none⟩ = some (.int .i64 st.plan.first) ∧ w'.cell? ⟨bs, 5, none⟩ = some (.int .i64 st.size) ∧ w'.cell? ⟨bs, 6, none⟩ = some (.bool st.torn) ∧ w'.cell? ⟨bs, 7, none⟩ = some (.int .i64 st.next) ∧ w'.cell? ⟨bs, 8, none⟩ = some (.slice Ar st.records.length cr))
          (first | exact ⟨hxz.cell d0 hb0 hne0, hxz.cell d1 hb0 hne0, hxz.cell d2 hb0 hne0, hxz.cell z0 hbs' hnes, hxz.cell z1 hbs' hnes, hxz.cell z2 hbs' hnes, hxz.cell z3 hbs' hnes, hxz.cell z4 hbs' hnes, hxz.cell z5 hbs' hnes, hxz.cell z6 hbs' hnes, hxz.cell z7 hbs' hnes, hxz.cell z8 hbs' hnes⟩ | exact ⟨kcell2 d0 hbz ld, kcell2 d1 hbz ld, kcell2 d2 hbz ld, kcell2 z0 hbz zl, kcell2 z1 hbz zl, kcell2 z2 hbz zl, kcell2 z3 hbz zl, kcell2 z4 hbz zl, kcell2 z5 hbz zl, kcell2 z6 hbz zl, kcell2 z7 hbz zl, kcell2 z8 hbz zl⟩ | go_keep)
          (first
            | (go_at_call 110; refine (HCY.out _ hby _ _ _ _ hvs).mono ?_; rintro e w9 ⟨rfl, A9, n9, c9, us9, hw9, hx9⟩; have hxz := (Ad.of_below (b := b) (v := .slice A8 n8 c8) hby).trans hx9)
            | (go_at_call 111; refine (HFN.out _ (HB8.out.trans ((below_drewN (Below.refl _ w7) _).mono HB8.out.size))).mono ?_; rintro e w8 ⟨v, uv, rfl, hvs0, hb8⟩; obtain ⟨An, cn, rfl⟩ := hvs0.form; have hbz : Below w7.heap.size w7 w8 := (below_drewN (Below.refl _ w7) _).trans hb8; have hby := hbz; have hvs := hvs0))
        all_goals
          have HB9 := hide (HB8.out.trans (hxz.toBelow HB8.out.size hwb (fun g e => by have := hfr8 g e; omega)))
          have x0 := hw9.box.cell 0
          have xl := hw9.box.lt
          obtain ⟨fr, ho, hn⟩ := hw9.own.toOw
          have HF := hide ho
          have HFN2 := hide (hn.mono (by omega : w.heap.size ≤ b + 1))
          clear hbz hby hb8 hxz hvs hvs0 hw9 hx9 ho hn z0 z1 z2 z3 z4 z5 z6 z7 z8 zl d0 d1 d2 ld HCY
          go_wp2
          go_ret3
          exact wrRet_of HCN.out HF.out HFN2.out HB9.out
    have hk2 : a.kind = 2 := by omega
    have HC := hide (HC6.out HKR.out HK4.out HTN.out hk2)
    simp only [List.getElem?_cons_zero] at a0
    rw [hk2] at a0
    clear HC6 HC7 HC7' HC8 HC9 HC0 hk1 hk2 hk3 hk4 hkr
    go_wp2_with fail
    refine (add_out wF b none 0 0 [] [] HBX.out 3 (segName st.plan.open_) ⟨#[]⟩ (by decide) (by omega) (Nat.zero_le _) (by simp)).mono ?_
    rintro e w7 ⟨rfl, A8, n8, c8, us8, hw8, hx8⟩
    have HB8 := hide (HB6.out.trans (hx8.toBelow HB6.out.size hwb (fun g e => by cases e)))
    have x0 := hw8.box.cell 0
    have xl := hw8.box.lt
    obtain ⟨fr, ho, hn⟩ := hw8.own.toOw
    have HF := hide ho
    have HFN2 := hide (hn.mono (by omega : w.heap.size ≤ b + 1))
    clear hw8 hx8 ho hn
    go_wp2
    go_ret3
    exact wrRet_of (l := [wOf 3 (segName st.plan.open_)]) HC.out HF.out HFN2.out HB8.out
end Go.Proofs.YtddjgbhkfdpffaaGreatDoor
set_option linter.unusedVariables false
set_option linter.unusedSimpArgs false
namespace Go.Proofs.YtddjgbhkfdpffaaGreatDoor
open Go.ChangeShapes Go.WideShapes Go.ChangeAt Go.RowKit

set_option maxRecDepth 100000 in
set_option maxHeartbeats 4000000 in
theorem implLogWrites_any (d : Disk) (us0 : List Value) (fp0 : List Nat) (a : LogAct) (us1 : List Value) (fp1 : List Nat) (w : World) (h : OwC w d.cells us0 fp0) (hf : Lt fp0 w.heap.size) (hbk : d.bulk ≤ 1048576) (ha : OwC w a.cells us1 fp1) (hfa : Lt fp1 w.heap.size) (hba : a.bulk ≤ 1048576) (hl : Lay w) (hw7 : 7 < w.heap.size) :
    Calls Tryz.prog 18 #[.agg us0.toArray, .agg us1.toArray] w (WrRet w (d.writes a).1 (d.writes a).2.1 (d.writes a).2.2) := by
  have HOC := hide h
  have HAC := hide ha
  obtain ⟨A1, c1, A2, c2, A3, c3, f1, f2, f3, rfl, o1, o2, o3, rfl⟩ := h.oDisk
  obtain ⟨Ak, ck, fk, rfl, wk0, ws0, wa0, wm0, oK, rfl⟩ := ha.oLogAct
  have HDK := hide (fun (W : World) (hb : Below w.heap.size w W) => implDiskOk_any d _ _ W (HOC.out.below hb hf) (hf.up hb) hbk)
  have HWR := hide (fun (hok : tb d.ok = true) (W : World) (hb : Below w.heap.size w W) => writes_any d _ _ a _ _ W (HOC.out.below hb hf) (hf.up hb) hbk (HAC.out.below hb hfa) (hfa.up hb) hba hok (hl.low hb hw7) (Nat.lt_of_lt_of_le hw7 hb.size))
  have HBD := hide (fun hno : tb d.ok = false => show d.writes a = ([], 0, 7) from by
    have hc : d.open_.code = 7 := by rw [stopen_no hno]; rfl
    rw [wr_code (by rw [hc]; decide) (by rw [hc]; rintro ⟨h, _⟩; exact absurd h (by decide)), hc])
  clear h ha o1 o2 o3 oK wk0 ws0 wa0 wm0 hl hw7
  generalize d.writes a = R at *
  go_enter Tryz.func18, Tryz.ntmps18
  go_upto_region 1 with fail
  generalize hwA : w.alloc (.cells #[.slice A1 d.files.length c1, .slice A2 d.names.length c2, .slice A3 d.moves.length c3] 38) = wA
  have hA : Below w.heap.size w wA := by rw [← hwA]; exact (Below.refl _ _).alloc (Nat.le_refl _) _
  have hsA : wA.heap.size = w.heap.size + 1 := by rw [← hwA]; simp
  have RA : Row wA w.heap.size 38 [.slice A1 d.files.length c1, .slice A2 d.names.length c2, .slice A3 d.moves.length c3] := by rw [← hwA]; exact Row.new w _ _
  try simp only [hsA]
  clear hwA
  generalize hwB : wA.alloc (.cells #[.int .i64 a.kind, .string a.data, .bool a.cuts, .int .i64 a.after, .int .i64 a.moves, .slice Ak a.keep.length ck] 52) = wB
  have hAB : Below wA.heap.size wA wB := by rw [← hwB]; exact (Below.refl _ _).alloc (Nat.le_refl _) _
  have RB : Row wB (w.heap.size + 1) 52 [.int .i64 a.kind, .string a.data, .bool a.cuts, .int .i64 a.after, .int .i64 a.moves, .slice Ak a.keep.length ck] := by rw [← hwB, ← hsA]; exact Row.new wA _ _
  have HB1 := hide (hA.trans (hAB.mono hA.size))
  have HR1 := hide (RA.below hAB RA.lt)
  have HA1 := hide RB
  clear hwB hA hAB hsA RA RB
  have d0 := HR1.out.cell 0
  have d1 := HR1.out.cell 1
  have d2 := HR1.out.cell 2
  have ld := HR1.out.lt
  go_wp2_with fail
  refine (HDK.out wB HB1.out).mono ?_
  rintro e w2 ⟨rfl, hb2⟩
  have HB2 := hide (HB1.out.trans (hb2.mono HB1.out.size))
  have HR2 := hide (HR1.out.below hb2 ld)
  have HA2 := hide (HA1.out.below hb2 HA1.out.lt)
  clear hb2 d0 d1 d2 ld HDK HR1 HA1 HB1
  by_cases hok : tb d.ok = true
  rotate_left
  · have hno : tb d.ok = false := by simpa using hok
    have HN := hide (HBD.out hno)
    rw [hno]
    clear hok hno
    go_wp2
    go_ret3
    exact wrRet_of HN.out (Ow.nil_ _ _ _) (New.nil _ _) HB2.out
  have HOK := hide hok
  rw [hok]
  clear hok
  have d0 := HR2.out.cell 0
  have d1 := HR2.out.cell 1
  have d2 := HR2.out.cell 2
  have ld := HR2.out.lt
  have a0 := HA2.out.cell 0
  have a1 := HA2.out.cell 1
  have a2 := HA2.out.cell 2
  have a3 := HA2.out.cell 3
  have a4 := HA2.out.cell 4
  have a5 := HA2.out.cell 5
  have al := HA2.out.lt
  go_wp2_with fail
  refine (HWR.out HOK.out w2 HB2.out).mono ?_
  rintro e w3 ⟨v, fq, rfl, ho, hn, hb3⟩
  have HB3 := hide (HB2.out.trans (hb3.mono HB2.out.size))
  have HO3 := hide ho
  have HN3 := hide (hn.mono HB2.out.size)
  clear ho hn hb3 d0 d1 d2 ld a0 a1 a2 a3 a4 a5 al HWR HR2 HA2 HB2 HBD
  obtain ⟨A8, c8, rfl, _, _⟩ := HO3.out.slice
  go_wp2
  go_ret3
  exact ⟨_, fq, rfl, HO3.out, HN3.out, HB3.out⟩
theorem DiskWrite.cntS_len (l : List DiskWrite) : DiskWrite.cntS l = 3 * l.length := by
  induction l with
  | nil => rfl
  | cons x l ih => simp only [DiskWrite.cntS, List.length_cons, ih, x.cnt_eq]; omega
theorem goners_le (l : List ByteArray) (st : LogState) : (goners l st).length ≤ l.length := by
  unfold goners
  exact List.length_filter_le _ _
theorem swept_len (d : Disk) (st : LogState) : (d.swept st).length ≤ d.shown.length + 2 := by
  have h := goners_le d.shown st
  unfold Disk.swept
  simp only [List.length_cons, List.length_append, List.length_map, List.length_nil]
  omega
theorem closeW_le {names : List ByteArray} {st : LogState} {l : List DiskWrite} (h : closeW names st = some l) : l.length ≤ 7 := by
  unfold closeW at h
  split at h
  · injection h with h
    subst h
    exact Nat.le_refl _
  · cases h
theorem mended_len {d : Disk} {st : LogState} {l : List DiskWrite} (h : d.mended st = some l) : l.length ≤ d.shown.length + 9 := by
  have hs := swept_len d st
  unfold Disk.mended at h
  split at h
  · cases hc : closeW (stays st) st with
    | none => rw [hc] at h; cases h
    | some k =>
      rw [hc] at h
      have hk := closeW_le hc
      have h : some (d.swept st ++ k) = some l := h
      injection h with h
      subst h
      rw [List.length_append]
      omega
  · injection h with h
    subst h
    omega
theorem birth_len {d : Disk} {l : List DiskWrite} (h : d.birth = some l) : l.length ≤ d.shown.length + 5 := by
  unfold Disk.birth at h
  split at h
  · injection h with h
    subst h
    rw [List.length_append, List.length_map]
    exact Nat.le_refl _
  · cases h
theorem writes_len (d : Disk) (a : LogAct) : (d.writes a).1.length ≤ d.shown.length + 9 := by
  unfold Disk.writes
  split
  · cases h : d.birth with
    | none => exact Nat.zero_le _
    | some l => have := birth_len h; dsimp only; omega
  split
  · exact Nat.zero_le _
  split
  · cases h : d.mended d.open_ with
    | none => exact Nat.zero_le _
    | some l => have := mended_len h; dsimp only; omega
  split
  · exact Nat.zero_le _
  split
  · exact Nat.zero_le _
  split
  · show 1 ≤ _; omega
  split
  · cases h : closeW d.fileList d.open_ with
    | none => exact Nat.zero_le _
    | some l => have := closeW_le h; dsimp only; rw [List.length_cons]; omega
  split
  · exact Nat.zero_le _
  split
  · exact Nat.zero_le _
  · show 1 ≤ _; omega
theorem writes_cnt (d : Disk) (a : LogAct) : DiskWrite.cntS (d.writes a).1 ≤ 3 * d.bulk + 27 := by
  have h := writes_len d a
  have h2 := d.shown_len
  rw [DiskWrite.cntS_len]
  omega
end Go.Proofs.YtddjgbhkfdpffaaGreatDoor
set_option linter.unusedVariables false
set_option linter.unusedSimpArgs false
namespace Go.Proofs.YtddjgbhkfdpffaaGreatDoor
open Go.ChangeShapes Go.WideShapes Go.ChangeAt Go.RowKit

theorem rowTouch {fp : List Nat} {w w2 : World} {g : Nat} {e : TypeId} {cs : List Value} (h : Row w g e cs) (ht : Touch fp w w2) (hn : g ∉ fp) : Row w2 g e cs := (ht.block _ h.lt hn).trans h

set_option maxRecDepth 100000 in
set_option maxHeartbeats 4000000 in
theorem lawFnExactLogWrites_any (w : World) (x0 : Disk) (us0 : List Value) (fp0 : List Nat) (ho0 : OwC w x0.cells us0 fp0) (hl0 : Lt fp0 w.heap.size) (x1 : LogAct) (us1 : List Value) (fp1 : List Nat) (ho1 : OwC w x1.cells us1 fp1) (hl1 : Lt fp1 w.heap.size) (ht : Lay w) (hw7 : 7 < w.heap.size) :
    Calls Tryz.prog 4 #[.agg us0.toArray, .agg us1.toArray] w fun e w' => e = .returned (.bool true) ∧ Below w.heap.size w w' := by
  have HTB := hide ht
  clear ht
  have B0 := hide (Below.refl w.heap.size w)
  have HO0 := hide ho0
  obtain ⟨a0A1, a0c1, a0A2, a0c2, a0A3, a0c3, a0f1, a0f2, a0f3, rfl, a0o1, a0o2, a0o3, efp0⟩ := ho0.oDisk
  clear ho0 a0o1 a0o2 a0o3
  have hAQ0 : Below w.heap.size w (w.alloc (.cells #[.slice a0A1 x0.files.length a0c1, .slice a0A2 x0.names.length a0c2, .slice a0A3 x0.moves.length a0c3] 26)) := (Below.refl _ _).alloc (Nat.le_refl _) _
  have BQ0 := hide (B0.out.trans (hAQ0.mono B0.out.size))
  have Q0 : Row (w.alloc (.cells #[.slice a0A1 x0.files.length a0c1, .slice a0A2 x0.names.length a0c2, .slice a0A3 x0.moves.length a0c3] 26)) w.heap.size 26 [.slice a0A1 x0.files.length a0c1, .slice a0A2 x0.names.length a0c2, .slice a0A3 x0.moves.length a0c3] := Row.new w _ _
  clear hAQ0
  have HO1 := hide ho1
  obtain ⟨a1A1, a1c1, a1f1, rfl, a1w0, a1w1, a1w3, a1w4, a1o1, efp1⟩ := ho1.oLogAct
  clear ho1 a1o1
  have hAQ1 : Below (w.alloc (.cells #[.slice a0A1 x0.files.length a0c1, .slice a0A2 x0.names.length a0c2, .slice a0A3 x0.moves.length a0c3] 26)).heap.size (w.alloc (.cells #[.slice a0A1 x0.files.length a0c1, .slice a0A2 x0.names.length a0c2, .slice a0A3 x0.moves.length a0c3] 26)) ((w.alloc (.cells #[.slice a0A1 x0.files.length a0c1, .slice a0A2 x0.names.length a0c2, .slice a0A3 x0.moves.length a0c3] 26)).alloc (.cells #[.int .i64 x1.kind, .string x1.data, .bool x1.cuts, .int .i64 x1.after, .int .i64 x1.moves, .slice a1A1 x1.keep.length a1c1] 47)) := (Below.refl _ _).alloc (Nat.le_refl _) _
  have BQ1 := hide (BQ0.out.trans (hAQ1.mono BQ0.out.size))
  have Q0 := Q0.below hAQ1 Q0.lt
  have Q1 : Row ((w.alloc (.cells #[.slice a0A1 x0.files.length a0c1, .slice a0A2 x0.names.length a0c2, .slice a0A3 x0.moves.length a0c3] 26)).alloc (.cells #[.int .i64 x1.kind, .string x1.data, .bool x1.cuts, .int .i64 x1.after, .int .i64 x1.moves, .slice a1A1 x1.keep.length a1c1] 47)) (w.heap.size + 1) 47 [.int .i64 x1.kind, .string x1.data, .bool x1.cuts, .int .i64 x1.after, .int .i64 x1.moves, .slice a1A1 x1.keep.length a1c1] := by
    have h := Row.new (w.alloc (.cells #[.slice a0A1 x0.files.length a0c1, .slice a0A2 x0.names.length a0c2, .slice a0A3 x0.moves.length a0c3] 26)) 47 [.int .i64 x1.kind, .string x1.data, .bool x1.cuts, .int .i64 x1.after, .int .i64 x1.moves, .slice a1A1 x1.keep.length a1c1]
    simp only [World.size_alloc] at h
    exact h
  clear hAQ1
  obtain ⟨r0, hr0⟩ : ∃ r, r = (x0.writes x1).1 := ⟨_, rfl⟩
  have HR0 := hide hr0
  clear hr0
  go_enter Tryz.func4, Tryz.ntmps4
  -- boxes of the parameters
  have c0_Q0_0 := Q0.cell 0
  have c0_Q0_1 := Q0.cell 1
  have c0_Q0_2 := Q0.cell 2
  have c0_Q1_0 := Q1.cell 0
  have c0_Q1_1 := Q1.cell 1
  have c0_Q1_2 := Q1.cell 2
  have c0_Q1_3 := Q1.cell 3
  have c0_Q1_4 := Q1.cell 4
  have c0_Q1_5 := Q1.cell 5
  have lt0_Q0 := Q0.lt
  have lt0_Q1 := Q1.lt
  go_wp2_with fail
  refine (szDisk_any x0 _ _ _ _ (HO0.out.below BQ1.out hl0) (hl0.up BQ1.out) (by omega) (by omega)).mono ?_
  rintro e u1 ⟨rfl, hb1⟩
  clear c0_Q0_0 c0_Q0_1 c0_Q0_2 c0_Q1_0 c0_Q1_1 c0_Q1_2 c0_Q1_3 c0_Q1_4 c0_Q1_5 lt0_Q0 lt0_Q1
  have S1 := hide (show w.heap.size + 1 + 1 ≤ u1.heap.size from by have := hb1.size; simpa only [World.size_alloc, size_setRow] using this)
  have B1 := hide (BQ1.out.trans (hb1.mono BQ1.out.size))
  have Q0 := Q0.below hb1 Q0.lt
  have Q1 := Q1.below hb1 Q1.lt
  clear hb1
  have c1_Q0_0 := Q0.cell 0
  have c1_Q0_1 := Q0.cell 1
  have c1_Q0_2 := Q0.cell 2
  have c1_Q1_0 := Q1.cell 0
  have c1_Q1_1 := Q1.cell 1
  have c1_Q1_2 := Q1.cell 2
  have c1_Q1_3 := Q1.cell 3
  have c1_Q1_4 := Q1.cell 4
  have c1_Q1_5 := Q1.cell 5
  have lt1_Q0 := Q0.lt
  have lt1_Q1 := Q1.lt
  by_cases hbk0 : ((x0.bulk : Nat) : Int) ≤ (1048576 : Int)
  · rw [szr_yes hbk0]
    go_wp2_with fail
    refine (szLogAct_any x1 _ _ _ _ (HO1.out.below B1.out hl1) (hl1.up B1.out) (by omega) (by omega)).mono ?_
    rintro e u2 ⟨rfl, hb2⟩
    clear c1_Q0_0 c1_Q0_1 c1_Q0_2 c1_Q1_0 c1_Q1_1 c1_Q1_2 c1_Q1_3 c1_Q1_4 c1_Q1_5 lt1_Q0 lt1_Q1
    have S2 := hide (show u1.heap.size ≤ u2.heap.size from by have := hb2.size; simpa only [World.size_alloc, size_setRow] using this)
    have B2 := hide (B1.out.trans (hb2.mono B1.out.size))
    have Q0 := Q0.below hb2 Q0.lt
    have Q1 := Q1.below hb2 Q1.lt
    clear hb2
    have c2_Q0_0 := Q0.cell 0
    have c2_Q0_1 := Q0.cell 1
    have c2_Q0_2 := Q0.cell 2
    have c2_Q1_0 := Q1.cell 0
    have c2_Q1_1 := Q1.cell 1
    have c2_Q1_2 := Q1.cell 2
    have c2_Q1_3 := Q1.cell 3
    have c2_Q1_4 := Q1.cell 4
    have c2_Q1_5 := Q1.cell 5
    have lt2_Q0 := Q0.lt
    have lt2_Q1 := Q1.lt
    by_cases hbk1 : ((x1.bulk : Nat) : Int) ≤ (1048576 : Int) - ((x0.bulk : Nat) : Int)
    · rw [szr_yes hbk1]
      have hx0 := x0.cntTop_bulk
      have hx1 : DiskWrite.cntS r0 ≤ 3 * x0.bulk + 27 := by rw [HR0.out]; exact writes_cnt x0 x1
      have hx2 := x1.cntTop_eq
      have hx3 := x1.bulk_eq
      unfold bulkStrs at hx3
      go_wp2
      go_region_held3 (fun w' => w'.cell? ⟨w.heap.size, 0, none⟩ = some (.slice a0A1 x0.files.length a0c1) ∧ w'.cell? ⟨w.heap.size, 1, none⟩ = some (.slice a0A2 x0.names.length a0c2) ∧ w'.cell? ⟨w.heap.size, 2, none⟩ = some (.slice a0A3 x0.moves.length a0c3) ∧ w'.cell? ⟨w.heap.size + 1, 0, none⟩ = some (.int .i64 x1.kind) ∧ w'.cell? ⟨w.heap.size + 1, 1, none⟩ = some (.string x1.data) ∧ w'.cell? ⟨w.heap.size + 1, 2, none⟩ = some (.bool x1.cuts) ∧ w'.cell? ⟨w.heap.size + 1, 3, none⟩ = some (.int .i64 x1.after) ∧ w'.cell? ⟨w.heap.size + 1, 4, none⟩ = some (.int .i64 x1.moves) ∧ w'.cell? ⟨w.heap.size + 1, 5, none⟩ = some (.slice a1A1 x1.keep.length a1c1))
        (first | go_keep | exact ⟨mwr_2_Q0.cell 0, mwr_2_Q0.cell 1, mwr_2_Q0.cell 2, mwr_2_Q1.cell 0, mwr_2_Q1.cell 1, mwr_2_Q1.cell 2, mwr_2_Q1.cell 3, mwr_2_Q1.cell 4, mwr_2_Q1.cell 5⟩ | exact ⟨mwr_1_Q0.cell 0, mwr_1_Q0.cell 1, mwr_1_Q0.cell 2, mwr_1_Q1.cell 0, mwr_1_Q1.cell 1, mwr_1_Q1.cell 2, mwr_1_Q1.cell 3, mwr_1_Q1.cell 4, mwr_1_Q1.cell 5⟩ | exact ⟨mwr_0_Q0.cell 0, mwr_0_Q0.cell 1, mwr_0_Q0.cell 2, mwr_0_Q1.cell 0, mwr_0_Q1.cell 1, mwr_0_Q1.cell 2, mwr_0_Q1.cell 3, mwr_0_Q1.cell 4, mwr_0_Q1.cell 5⟩)
        (first
          | (go_at_call 16; refine (specLogWrites_any x0 _ _ x1 _ _ _ (ywt0.below hwr_1 zwt0.lt) (zwt0.lt.mono hwr_1.size) (by omega) ywt1 zwt1.lt (by omega)).mono ?_; rintro e uwr_2 ⟨vw0, fw0, rfl, yw0, zw0, hwr_2⟩; have mwr_2_Q0 := mwr_1_Q0.below hwr_2 mwr_1_Q0.lt; have mwr_2_Q1 := mwr_1_Q1.below hwr_2 mwr_1_Q1.lt)
          | (go_at_call 17; refine (toLogAct_any x1 _ _ _ (HO1.out.below (B2.out.drew.trans (hwr_0.mono B2.out.drew.size)) hl1) (hl1.up (B2.out.drew.trans (hwr_0.mono B2.out.drew.size))) (by omega)).mono ?_; rintro e uwr_1 ⟨vwt1, fwt1, rfl, ywt1, zwt1, hwr_1⟩; have mwr_1_Q0 := mwr_0_Q0.below hwr_1 mwr_0_Q0.lt; have mwr_1_Q1 := mwr_0_Q1.below hwr_1 mwr_0_Q1.lt)
          | (go_at_call 8; refine (toDisk_any x0 _ _ _ (HO0.out.below B2.out.drew hl0) (hl0.up B2.out.drew) (by omega)).mono ?_; rintro e uwr_0 ⟨vwt0, fwt0, rfl, ywt0, zwt0, hwr_0⟩; have mwr_0_Q0 := (Q0.drewN 1).below hwr_0 (by exact Q0.lt); have mwr_0_Q1 := (Q1.drewN 1).below hwr_0 (by exact Q1.lt)))
      clear c2_Q0_0 c2_Q0_1 c2_Q0_2 c2_Q1_0 c2_Q1_1 c2_Q1_2 c2_Q1_3 c2_Q1_4 c2_Q1_5 lt2_Q0 lt2_Q1
      have hzwr : Below u2.heap.size u2 uwr_0 := ⟨hwr_0.os, hwr_0.tape, hwr_0.output, hwr_0.size, hwr_0.block⟩
      clear mwr_0_Q0 mwr_0_Q1 mwr_1_Q0 mwr_1_Q1 mwr_2_Q0 mwr_2_Q1
      have S3 := hide (show u2.heap.size ≤ uwr_0.heap.size from by have := hzwr.size; simpa only [World.size_alloc, size_setRow] using this)
      have B3 := hide (B2.out.trans (hzwr.mono B2.out.size))
      have Q0 := Q0.below hzwr Q0.lt
      have Q1 := Q1.below hzwr Q1.lt
      have Owt0 := hide ywt0
      have Nwt0 := hide zwt0
      have Lwt0 := hide (show ∀ g ∈ fwt0, u2.heap.size ≤ g ∧ g < uwr_0.heap.size from fun g hg => ⟨by have := (zwt0.fr g hg).1; first | exact this | simpa only [World.size_alloc, size_setRow] using this, zwt0.lt g hg⟩)
      clear ywt0 zwt0
      have S4 := hide (show uwr_0.heap.size ≤ uwr_1.heap.size from by have := hwr_1.size; simpa only [World.size_alloc, size_setRow] using this)
      have B4 := hide (B3.out.trans (hwr_1.mono B3.out.size))
      have Q0 := Q0.below hwr_1 Q0.lt
      have Q1 := Q1.below hwr_1 Q1.lt
      have Owt0 := hide (Owt0.out.below hwr_1 Nwt0.out.lt)
      have Nwt0 := hide (Nwt0.out.below hwr_1 Nwt0.out.lt)
      have Owt1 := hide ywt1
      have Nwt1 := hide zwt1
      have Lwt1 := hide (show ∀ g ∈ fwt1, uwr_0.heap.size ≤ g ∧ g < uwr_1.heap.size from fun g hg => ⟨by have := (zwt1.fr g hg).1; first | exact this | simpa only [World.size_alloc, size_setRow] using this, zwt1.lt g hg⟩)
      clear ywt1 zwt1
      have S5 := hide (show uwr_1.heap.size ≤ uwr_2.heap.size from by have := hwr_2.size; simpa only [World.size_alloc, size_setRow] using this)
      have B5 := hide (B4.out.trans (hwr_2.mono B4.out.size))
      have Q0 := Q0.below hwr_2 Q0.lt
      have Q1 := Q1.below hwr_2 Q1.lt
      have Owt0 := hide (Owt0.out.below hwr_2 Nwt0.out.lt)
      have Nwt0 := hide (Nwt0.out.below hwr_2 Nwt0.out.lt)
      have Owt1 := hide (Owt1.out.below hwr_2 Nwt1.out.lt)
      have Nwt1 := hide (Nwt1.out.below hwr_2 Nwt1.out.lt)
      clear hwr_0 hwr_1 hwr_2 hzwr
      rw [← HR0.out] at yw0
      have Ow0 := hide yw0
      have Nw0 := hide zw0
      have Lw0 := hide (show ∀ g ∈ fw0, uwr_1.heap.size ≤ g ∧ g < uwr_2.heap.size from fun g hg => ⟨by have := (zw0.fr g hg).1; first | exact this | simpa only [World.size_alloc, size_setRow] using this, zw0.lt g hg⟩)
      clear yw0 zw0
      obtain ⟨w0A, w0c, rfl, _, _⟩ := Ow0.out.slice
      have c5_Q0_0 := Q0.cell 0
      have c5_Q0_1 := Q0.cell 1
      have c5_Q0_2 := Q0.cell 2
      have c5_Q1_0 := Q1.cell 0
      have c5_Q1_1 := Q1.cell 1
      have c5_Q1_2 := Q1.cell 2
      have c5_Q1_3 := Q1.cell 3
      have c5_Q1_4 := Q1.cell 4
      have c5_Q1_5 := Q1.cell 5
      have lt5_Q0 := Q0.lt
      have lt5_Q1 := Q1.lt
      go_wp2_with fail
      refine (toDisk_any x0 _ _ _ (HO0.out.below B5.out hl0) (hl0.up B5.out) (by omega)).mono ?_
      rintro e u6 ⟨vx0, fx0, rfl, yx0, zx0, hb6⟩
      clear c5_Q0_0 c5_Q0_1 c5_Q0_2 c5_Q1_0 c5_Q1_1 c5_Q1_2 c5_Q1_3 c5_Q1_4 c5_Q1_5 lt5_Q0 lt5_Q1
      have S6 := hide (show uwr_2.heap.size ≤ u6.heap.size from by have := hb6.size; simpa only [World.size_alloc, size_setRow] using this)
      have B6 := hide (B5.out.trans (hb6.mono B5.out.size))
      have Q0 := Q0.below hb6 Q0.lt
      have Q1 := Q1.below hb6 Q1.lt
      have Ow0 := hide (Ow0.out.below hb6 Nw0.out.lt)
      have Nw0 := hide (Nw0.out.below hb6 Nw0.out.lt)
      have Ox0 := hide yx0
      have Nx0 := hide zx0
      have Lx0 := hide (show ∀ g ∈ fx0, uwr_2.heap.size ≤ g ∧ g < u6.heap.size from fun g hg => ⟨by have := (zx0.fr g hg).1; first | exact this | simpa only [World.size_alloc, size_setRow] using this, zx0.lt g hg⟩)
      clear yx0 zx0
      clear hb6
      have Tx0 := Ox0.out
      obtain ⟨x0A1, x0c1, x0A2, x0c2, x0A3, x0c3, x0f1, x0f2, x0f3, rfl, x0o1, x0o2, x0o3, x0ef⟩ := Tx0.oDisk
      clear Tx0 x0o1 x0o2 x0o3
      have hAPx0 : Below u6.heap.size u6 (u6.alloc (.cells #[.slice x0A1 x0.files.length x0c1, .slice x0A2 x0.names.length x0c2, .slice x0A3 x0.moves.length x0c3] 38)) := (Below.refl _ _).alloc (Nat.le_refl _) _
      have BPx0 := hide (B6.out.trans (hAPx0.mono B6.out.size))
      have Q0 := Q0.below hAPx0 Q0.lt
      have Q1 := Q1.below hAPx0 Q1.lt
      have Ow0 := hide (Ow0.out.below hAPx0 Nw0.out.lt)
      have Nw0 := hide (Nw0.out.below hAPx0 Nw0.out.lt)
      have Ox0 := hide (Ox0.out.below hAPx0 Nx0.out.lt)
      have Nx0 := hide (Nx0.out.below hAPx0 Nx0.out.lt)
      have Px0 : Row (u6.alloc (.cells #[.slice x0A1 x0.files.length x0c1, .slice x0A2 x0.names.length x0c2, .slice x0A3 x0.moves.length x0c3] 38)) u6.heap.size 38 [.slice x0A1 x0.files.length x0c1, .slice x0A2 x0.names.length x0c2, .slice x0A3 x0.moves.length x0c3] := Row.new u6 _ _
      clear hAPx0
      have c6_Q0_0 := Q0.cell 0
      have c6_Q0_1 := Q0.cell 1
      have c6_Q0_2 := Q0.cell 2
      have c6_Q1_0 := Q1.cell 0
      have c6_Q1_1 := Q1.cell 1
      have c6_Q1_2 := Q1.cell 2
      have c6_Q1_3 := Q1.cell 3
      have c6_Q1_4 := Q1.cell 4
      have c6_Q1_5 := Q1.cell 5
      have c6_Px0_0 := Px0.cell 0
      have c6_Px0_1 := Px0.cell 1
      have c6_Px0_2 := Px0.cell 2
      have lt6_Q0 := Q0.lt
      have lt6_Q1 := Q1.lt
      have lt6_Px0 := Px0.lt
      go_wp2_with fail
      refine (toLogAct_any x1 _ _ _ (HO1.out.below BPx0.out hl1) (hl1.up BPx0.out) (by omega)).mono ?_
      rintro e u7 ⟨vx1, fx1, rfl, yx1, zx1, hb7⟩
      clear c6_Q0_0 c6_Q0_1 c6_Q0_2 c6_Q1_0 c6_Q1_1 c6_Q1_2 c6_Q1_3 c6_Q1_4 c6_Q1_5 c6_Px0_0 c6_Px0_1 c6_Px0_2 lt6_Q0 lt6_Q1 lt6_Px0
      have S7 := hide (show u6.heap.size + 1 ≤ u7.heap.size from by have := hb7.size; simpa only [World.size_alloc, size_setRow] using this)
      have B7 := hide (BPx0.out.trans (hb7.mono BPx0.out.size))
      have Q0 := Q0.below hb7 Q0.lt
      have Q1 := Q1.below hb7 Q1.lt
      have Px0 := Px0.below hb7 Px0.lt
      have Ow0 := hide (Ow0.out.below hb7 Nw0.out.lt)
      have Nw0 := hide (Nw0.out.below hb7 Nw0.out.lt)
      have Ox0 := hide (Ox0.out.below hb7 Nx0.out.lt)
      have Nx0 := hide (Nx0.out.below hb7 Nx0.out.lt)
      have Ox1 := hide yx1
      have Nx1 := hide zx1
      have Lx1 := hide (show ∀ g ∈ fx1, u6.heap.size + 1 ≤ g ∧ g < u7.heap.size from fun g hg => ⟨by have := (zx1.fr g hg).1; first | exact this | simpa only [World.size_alloc, size_setRow] using this, zx1.lt g hg⟩)
      clear yx1 zx1
      clear hb7
      have Tx1 := Ox1.out
      obtain ⟨x1A1, x1c1, x1f1, rfl, x1w0, x1w1, x1w3, x1w4, x1o1, x1ef⟩ := Tx1.oLogAct
      clear Tx1 x1o1
      have hAPx1 : Below u7.heap.size u7 (u7.alloc (.cells #[.int .i64 x1.kind, .string x1.data, .bool x1.cuts, .int .i64 x1.after, .int .i64 x1.moves, .slice x1A1 x1.keep.length x1c1] 52)) := (Below.refl _ _).alloc (Nat.le_refl _) _
      have BPx1 := hide (B7.out.trans (hAPx1.mono B7.out.size))
      have Q0 := Q0.below hAPx1 Q0.lt
      have Q1 := Q1.below hAPx1 Q1.lt
      have Px0 := Px0.below hAPx1 Px0.lt
      have Ow0 := hide (Ow0.out.below hAPx1 Nw0.out.lt)
      have Nw0 := hide (Nw0.out.below hAPx1 Nw0.out.lt)
      have Ox0 := hide (Ox0.out.below hAPx1 Nx0.out.lt)
      have Nx0 := hide (Nx0.out.below hAPx1 Nx0.out.lt)
      have Ox1 := hide (Ox1.out.below hAPx1 Nx1.out.lt)
      have Nx1 := hide (Nx1.out.below hAPx1 Nx1.out.lt)
      have Px1 : Row (u7.alloc (.cells #[.int .i64 x1.kind, .string x1.data, .bool x1.cuts, .int .i64 x1.after, .int .i64 x1.moves, .slice x1A1 x1.keep.length x1c1] 52)) u7.heap.size 52 [.int .i64 x1.kind, .string x1.data, .bool x1.cuts, .int .i64 x1.after, .int .i64 x1.moves, .slice x1A1 x1.keep.length x1c1] := Row.new u7 _ _
      clear hAPx1
      have c7_Q0_0 := Q0.cell 0
      have c7_Q0_1 := Q0.cell 1
      have c7_Q0_2 := Q0.cell 2
      have c7_Q1_0 := Q1.cell 0
      have c7_Q1_1 := Q1.cell 1
      have c7_Q1_2 := Q1.cell 2
      have c7_Q1_3 := Q1.cell 3
      have c7_Q1_4 := Q1.cell 4
      have c7_Q1_5 := Q1.cell 5
      have c7_Px0_0 := Px0.cell 0
      have c7_Px0_1 := Px0.cell 1
      have c7_Px0_2 := Px0.cell 2
      have c7_Px1_0 := Px1.cell 0
      have c7_Px1_1 := Px1.cell 1
      have c7_Px1_2 := Px1.cell 2
      have c7_Px1_3 := Px1.cell 3
      have c7_Px1_4 := Px1.cell 4
      have c7_Px1_5 := Px1.cell 5
      have lt7_Q0 := Q0.lt
      have lt7_Q1 := Q1.lt
      have lt7_Px0 := Px0.lt
      have lt7_Px1 := Px1.lt
      go_wp2_with fail
      refine (implLogWrites_any x0 _ _ x1 _ _ _ Ox0.out Nx0.out.lt (by omega) Ox1.out Nx1.out.lt (by omega) (HTB.out.below BPx1.out) (by have := BPx1.out.size; (try simp only [World.size_alloc, size_setRow] at this ⊢); omega)).mono ?_
      rintro e u8 ⟨vg0, fg0, rfl, yg0, zg0, hb8⟩
      clear c7_Q0_0 c7_Q0_1 c7_Q0_2 c7_Q1_0 c7_Q1_1 c7_Q1_2 c7_Q1_3 c7_Q1_4 c7_Q1_5 c7_Px0_0 c7_Px0_1 c7_Px0_2 c7_Px1_0 c7_Px1_1 c7_Px1_2 c7_Px1_3 c7_Px1_4 c7_Px1_5 lt7_Q0 lt7_Q1 lt7_Px0 lt7_Px1
      have S8 := hide (show u7.heap.size + 1 ≤ u8.heap.size from by have := hb8.size; simpa only [World.size_alloc, size_setRow] using this)
      have B8 := hide (BPx1.out.trans (hb8.mono BPx1.out.size))
      have Q0 := Q0.below hb8 Q0.lt
      have Q1 := Q1.below hb8 Q1.lt
      have Px0 := Px0.below hb8 Px0.lt
      have Px1 := Px1.below hb8 Px1.lt
      have Ow0 := hide (Ow0.out.below hb8 Nw0.out.lt)
      have Nw0 := hide (Nw0.out.below hb8 Nw0.out.lt)
      have Ox0 := hide (Ox0.out.below hb8 Nx0.out.lt)
      have Nx0 := hide (Nx0.out.below hb8 Nx0.out.lt)
      have Ox1 := hide (Ox1.out.below hb8 Nx1.out.lt)
      have Nx1 := hide (Nx1.out.below hb8 Nx1.out.lt)
      clear hb8
      rw [← HR0.out] at yg0
      have Og0 := hide yg0
      have Ng0 := hide zg0
      have Lg0 := hide (show ∀ g ∈ fg0, u7.heap.size + 1 ≤ g ∧ g < u8.heap.size from fun g hg => ⟨by have := (zg0.fr g hg).1; first | exact this | simpa only [World.size_alloc, size_setRow] using this, zg0.lt g hg⟩)
      clear yg0 zg0
      obtain ⟨g0A, g0c, rfl, _, _⟩ := Og0.out.slice
      have c8_Q0_0 := Q0.cell 0
      have c8_Q0_1 := Q0.cell 1
      have c8_Q0_2 := Q0.cell 2
      have c8_Q1_0 := Q1.cell 0
      have c8_Q1_1 := Q1.cell 1
      have c8_Q1_2 := Q1.cell 2
      have c8_Q1_3 := Q1.cell 3
      have c8_Q1_4 := Q1.cell 4
      have c8_Q1_5 := Q1.cell 5
      have c8_Px0_0 := Px0.cell 0
      have c8_Px0_1 := Px0.cell 1
      have c8_Px0_2 := Px0.cell 2
      have c8_Px1_0 := Px1.cell 0
      have c8_Px1_1 := Px1.cell 1
      have c8_Px1_2 := Px1.cell 2
      have c8_Px1_3 := Px1.cell 3
      have c8_Px1_4 := Px1.cell 4
      have c8_Px1_5 := Px1.cell 5
      have lt8_Q0 := Q0.lt
      have lt8_Q1 := Q1.lt
      have lt8_Px0 := Px0.lt
      have lt8_Px1 := Px1.lt
      go_wp2_with fail
      refine (eqDiskWriteS_any r0 _ _ _ _ _ _ _ _ _ Og0.out Ow0.out Ng0.out.lt Nw0.out.lt).mono ?_
      rintro e u9 ⟨rfl, hb9⟩
      clear c8_Q0_0 c8_Q0_1 c8_Q0_2 c8_Q1_0 c8_Q1_1 c8_Q1_2 c8_Q1_3 c8_Q1_4 c8_Q1_5 c8_Px0_0 c8_Px0_1 c8_Px0_2 c8_Px1_0 c8_Px1_1 c8_Px1_2 c8_Px1_3 c8_Px1_4 c8_Px1_5 lt8_Q0 lt8_Q1 lt8_Px0 lt8_Px1
      have S9 := hide (show u8.heap.size ≤ u9.heap.size from by have := hb9.size; simpa only [World.size_alloc, size_setRow] using this)
      have B9 := hide (B8.out.trans (hb9.mono B8.out.size))
      have Q0 := Q0.below hb9 Q0.lt
      have Q1 := Q1.below hb9 Q1.lt
      have Px0 := Px0.below hb9 Px0.lt
      have Px1 := Px1.below hb9 Px1.lt
      have Ow0 := hide (Ow0.out.below hb9 Nw0.out.lt)
      have Nw0 := hide (Nw0.out.below hb9 Nw0.out.lt)
      have Ox0 := hide (Ox0.out.below hb9 Nx0.out.lt)
      have Nx0 := hide (Nx0.out.below hb9 Nx0.out.lt)
      have Ox1 := hide (Ox1.out.below hb9 Nx1.out.lt)
      have Nx1 := hide (Nx1.out.below hb9 Nx1.out.lt)
      have Og0 := hide (Og0.out.below hb9 Ng0.out.lt)
      have Ng0 := hide (Ng0.out.below hb9 Ng0.out.lt)
      clear hb9
      have c9_Q0_0 := Q0.cell 0
      have c9_Q0_1 := Q0.cell 1
      have c9_Q0_2 := Q0.cell 2
      have c9_Q1_0 := Q1.cell 0
      have c9_Q1_1 := Q1.cell 1
      have c9_Q1_2 := Q1.cell 2
      have c9_Q1_3 := Q1.cell 3
      have c9_Q1_4 := Q1.cell 4
      have c9_Q1_5 := Q1.cell 5
      have c9_Px0_0 := Px0.cell 0
      have c9_Px0_1 := Px0.cell 1
      have c9_Px0_2 := Px0.cell 2
      have c9_Px1_0 := Px1.cell 0
      have c9_Px1_1 := Px1.cell 1
      have c9_Px1_2 := Px1.cell 2
      have c9_Px1_3 := Px1.cell 3
      have c9_Px1_4 := Px1.cell 4
      have c9_Px1_5 := Px1.cell 5
      have lt9_Q0 := Q0.lt
      have lt9_Q1 := Q1.lt
      have lt9_Px0 := Px0.lt
      have lt9_Px1 := Px1.lt
      go_wp2
      go_region_held3 (fun w' => w'.cell? ⟨w.heap.size, 0, none⟩ = some (.slice a0A1 x0.files.length a0c1) ∧ w'.cell? ⟨w.heap.size, 1, none⟩ = some (.slice a0A2 x0.names.length a0c2) ∧ w'.cell? ⟨w.heap.size, 2, none⟩ = some (.slice a0A3 x0.moves.length a0c3) ∧ w'.cell? ⟨u6.heap.size, 0, none⟩ = some (.slice x0A1 x0.files.length x0c1) ∧ w'.cell? ⟨u6.heap.size, 1, none⟩ = some (.slice x0A2 x0.names.length x0c2) ∧ w'.cell? ⟨u6.heap.size, 2, none⟩ = some (.slice x0A3 x0.moves.length x0c3))
        (first | go_keep | exact ⟨me0_1_Q0.cell 0, me0_1_Q0.cell 1, me0_1_Q0.cell 2, me0_1_Px0.cell 0, me0_1_Px0.cell 1, me0_1_Px0.cell 2⟩ | exact ⟨me0_0_Q0.cell 0, me0_0_Q0.cell 1, me0_0_Q0.cell 2, me0_0_Px0.cell 0, me0_0_Px0.cell 1, me0_0_Px0.cell 2⟩)
        (first
          | (go_at_call 11; refine (eqDisk_any x0 _ _ _ _ _ ((Ox0.out.drewN 1).below he0_0 (by exact Nx0.out.lt)) ye0 (by exact (Nx0.out.lt.mono he0_0.size)) ze0.lt).mono ?_; rintro e ue0_1 ⟨rfl, he0_1⟩; have me0_1_Q0 := me0_0_Q0.below he0_1 me0_0_Q0.lt; have me0_1_Px0 := me0_0_Px0.below he0_1 me0_0_Px0.lt)
          | (go_at_call 8; refine (toDisk_any x0 _ _ _ (HO0.out.below B9.out.drew hl0) (hl0.up B9.out.drew) (by omega)).mono ?_; rintro e ue0_0 ⟨ve0, fe0, rfl, ye0, ze0, he0_0⟩; have me0_0_Q0 := (Q0.drewN 1).below he0_0 (by exact Q0.lt); have me0_0_Px0 := (Px0.drewN 1).below he0_0 (by exact Px0.lt)))
      clear c9_Q0_0 c9_Q0_1 c9_Q0_2 c9_Q1_0 c9_Q1_1 c9_Q1_2 c9_Q1_3 c9_Q1_4 c9_Q1_5 c9_Px0_0 c9_Px0_1 c9_Px0_2 c9_Px1_0 c9_Px1_1 c9_Px1_2 c9_Px1_3 c9_Px1_4 c9_Px1_5 lt9_Q0 lt9_Q1 lt9_Px0 lt9_Px1
      have hze0 : Below u9.heap.size u9 ue0_0 := ⟨he0_0.os, he0_0.tape, he0_0.output, he0_0.size, he0_0.block⟩
      clear me0_0_Q0 me0_0_Px0 me0_1_Q0 me0_1_Px0
      have S10 := hide (show u9.heap.size ≤ ue0_0.heap.size from by have := hze0.size; simpa only [World.size_alloc, size_setRow] using this)
      have B10 := hide (B9.out.trans (hze0.mono B9.out.size))
      have Q0 := Q0.below hze0 Q0.lt
      have Q1 := Q1.below hze0 Q1.lt
      have Px0 := Px0.below hze0 Px0.lt
      have Px1 := Px1.below hze0 Px1.lt
      have Ow0 := hide (Ow0.out.below hze0 Nw0.out.lt)
      have Nw0 := hide (Nw0.out.below hze0 Nw0.out.lt)
      have Ox0 := hide (Ox0.out.below hze0 Nx0.out.lt)
      have Nx0 := hide (Nx0.out.below hze0 Nx0.out.lt)
      have Ox1 := hide (Ox1.out.below hze0 Nx1.out.lt)
      have Nx1 := hide (Nx1.out.below hze0 Nx1.out.lt)
      have Og0 := hide (Og0.out.below hze0 Ng0.out.lt)
      have Ng0 := hide (Ng0.out.below hze0 Ng0.out.lt)
      have S11 := hide (show ue0_0.heap.size ≤ ue0_1.heap.size from by have := he0_1.size; simpa only [World.size_alloc, size_setRow] using this)
      have B11 := hide (B10.out.trans (he0_1.mono B10.out.size))
      have Q0 := Q0.below he0_1 Q0.lt
      have Q1 := Q1.below he0_1 Q1.lt
      have Px0 := Px0.below he0_1 Px0.lt
      have Px1 := Px1.below he0_1 Px1.lt
      have Ow0 := hide (Ow0.out.below he0_1 Nw0.out.lt)
      have Nw0 := hide (Nw0.out.below he0_1 Nw0.out.lt)
      have Ox0 := hide (Ox0.out.below he0_1 Nx0.out.lt)
      have Nx0 := hide (Nx0.out.below he0_1 Nx0.out.lt)
      have Ox1 := hide (Ox1.out.below he0_1 Nx1.out.lt)
      have Nx1 := hide (Nx1.out.below he0_1 Nx1.out.lt)
      have Og0 := hide (Og0.out.below he0_1 Ng0.out.lt)
      have Ng0 := hide (Ng0.out.below he0_1 Ng0.out.lt)
      clear he0_0 he0_1 hze0
      clear ye0 ze0
      have c11_Q0_0 := Q0.cell 0
      have c11_Q0_1 := Q0.cell 1
      have c11_Q0_2 := Q0.cell 2
      have c11_Q1_0 := Q1.cell 0
      have c11_Q1_1 := Q1.cell 1
      have c11_Q1_2 := Q1.cell 2
      have c11_Q1_3 := Q1.cell 3
      have c11_Q1_4 := Q1.cell 4
      have c11_Q1_5 := Q1.cell 5
      have c11_Px0_0 := Px0.cell 0
      have c11_Px0_1 := Px0.cell 1
      have c11_Px0_2 := Px0.cell 2
      have c11_Px1_0 := Px1.cell 0
      have c11_Px1_1 := Px1.cell 1
      have c11_Px1_2 := Px1.cell 2
      have c11_Px1_3 := Px1.cell 3
      have c11_Px1_4 := Px1.cell 4
      have c11_Px1_5 := Px1.cell 5
      have lt11_Q0 := Q0.lt
      have lt11_Q1 := Q1.lt
      have lt11_Px0 := Px0.lt
      have lt11_Px1 := Px1.lt
      go_wp2
      go_region_held3 (fun w' => w'.cell? ⟨w.heap.size + 1, 0, none⟩ = some (.int .i64 x1.kind) ∧ w'.cell? ⟨w.heap.size + 1, 1, none⟩ = some (.string x1.data) ∧ w'.cell? ⟨w.heap.size + 1, 2, none⟩ = some (.bool x1.cuts) ∧ w'.cell? ⟨w.heap.size + 1, 3, none⟩ = some (.int .i64 x1.after) ∧ w'.cell? ⟨w.heap.size + 1, 4, none⟩ = some (.int .i64 x1.moves) ∧ w'.cell? ⟨w.heap.size + 1, 5, none⟩ = some (.slice a1A1 x1.keep.length a1c1) ∧ w'.cell? ⟨u7.heap.size, 0, none⟩ = some (.int .i64 x1.kind) ∧ w'.cell? ⟨u7.heap.size, 1, none⟩ = some (.string x1.data) ∧ w'.cell? ⟨u7.heap.size, 2, none⟩ = some (.bool x1.cuts) ∧ w'.cell? ⟨u7.heap.size, 3, none⟩ = some (.int .i64 x1.after) ∧ w'.cell? ⟨u7.heap.size, 4, none⟩ = some (.int .i64 x1.moves) ∧ w'.cell? ⟨u7.heap.size, 5, none⟩ = some (.slice x1A1 x1.keep.length x1c1))
        (first | go_keep | exact ⟨me1_1_Q1.cell 0, me1_1_Q1.cell 1, me1_1_Q1.cell 2, me1_1_Q1.cell 3, me1_1_Q1.cell 4, me1_1_Q1.cell 5, me1_1_Px1.cell 0, me1_1_Px1.cell 1, me1_1_Px1.cell 2, me1_1_Px1.cell 3, me1_1_Px1.cell 4, me1_1_Px1.cell 5⟩ | exact ⟨me1_0_Q1.cell 0, me1_0_Q1.cell 1, me1_0_Q1.cell 2, me1_0_Q1.cell 3, me1_0_Q1.cell 4, me1_0_Q1.cell 5, me1_0_Px1.cell 0, me1_0_Px1.cell 1, me1_0_Px1.cell 2, me1_0_Px1.cell 3, me1_0_Px1.cell 4, me1_0_Px1.cell 5⟩)
        (first
          | (go_at_call 20; refine (eqLogAct_any x1 _ _ _ _ _ ((Ox1.out.drewN 1).below he1_0 (by exact Nx1.out.lt)) ye1 (by exact (Nx1.out.lt.mono he1_0.size)) ze1.lt).mono ?_; rintro e ue1_1 ⟨rfl, he1_1⟩; have me1_1_Q1 := me1_0_Q1.below he1_1 me1_0_Q1.lt; have me1_1_Px1 := me1_0_Px1.below he1_1 me1_0_Px1.lt)
          | (go_at_call 17; refine (toLogAct_any x1 _ _ _ (HO1.out.below B11.out.drew hl1) (hl1.up B11.out.drew) (by omega)).mono ?_; rintro e ue1_0 ⟨ve1, fe1, rfl, ye1, ze1, he1_0⟩; have me1_0_Q1 := (Q1.drewN 1).below he1_0 (by exact Q1.lt); have me1_0_Px1 := (Px1.drewN 1).below he1_0 (by exact Px1.lt)))
      clear c11_Q0_0 c11_Q0_1 c11_Q0_2 c11_Q1_0 c11_Q1_1 c11_Q1_2 c11_Q1_3 c11_Q1_4 c11_Q1_5 c11_Px0_0 c11_Px0_1 c11_Px0_2 c11_Px1_0 c11_Px1_1 c11_Px1_2 c11_Px1_3 c11_Px1_4 c11_Px1_5 lt11_Q0 lt11_Q1 lt11_Px0 lt11_Px1
      have hze1 : Below ue0_1.heap.size ue0_1 ue1_0 := ⟨he1_0.os, he1_0.tape, he1_0.output, he1_0.size, he1_0.block⟩
      clear me1_0_Q1 me1_0_Px1 me1_1_Q1 me1_1_Px1
      have S12 := hide (show ue0_1.heap.size ≤ ue1_0.heap.size from by have := hze1.size; simpa only [World.size_alloc, size_setRow] using this)
      have B12 := hide (B11.out.trans (hze1.mono B11.out.size))
      have Q0 := Q0.below hze1 Q0.lt
      have Q1 := Q1.below hze1 Q1.lt
      have Px0 := Px0.below hze1 Px0.lt
      have Px1 := Px1.below hze1 Px1.lt
      have Ow0 := hide (Ow0.out.below hze1 Nw0.out.lt)
      have Nw0 := hide (Nw0.out.below hze1 Nw0.out.lt)
      have Ox0 := hide (Ox0.out.below hze1 Nx0.out.lt)
      have Nx0 := hide (Nx0.out.below hze1 Nx0.out.lt)
      have Ox1 := hide (Ox1.out.below hze1 Nx1.out.lt)
      have Nx1 := hide (Nx1.out.below hze1 Nx1.out.lt)
      have Og0 := hide (Og0.out.below hze1 Ng0.out.lt)
      have Ng0 := hide (Ng0.out.below hze1 Ng0.out.lt)
      have S13 := hide (show ue1_0.heap.size ≤ ue1_1.heap.size from by have := he1_1.size; simpa only [World.size_alloc, size_setRow] using this)
      have B13 := hide (B12.out.trans (he1_1.mono B12.out.size))
      have Q0 := Q0.below he1_1 Q0.lt
      have Q1 := Q1.below he1_1 Q1.lt
      have Px0 := Px0.below he1_1 Px0.lt
      have Px1 := Px1.below he1_1 Px1.lt
      have Ow0 := hide (Ow0.out.below he1_1 Nw0.out.lt)
      have Nw0 := hide (Nw0.out.below he1_1 Nw0.out.lt)
      have Ox0 := hide (Ox0.out.below he1_1 Nx0.out.lt)
      have Nx0 := hide (Nx0.out.below he1_1 Nx0.out.lt)
      have Ox1 := hide (Ox1.out.below he1_1 Nx1.out.lt)
      have Nx1 := hide (Nx1.out.below he1_1 Nx1.out.lt)
      have Og0 := hide (Og0.out.below he1_1 Ng0.out.lt)
      have Ng0 := hide (Ng0.out.below he1_1 Ng0.out.lt)
      clear he1_0 he1_1 hze1
      clear ye1 ze1
      have c13_Q0_0 := Q0.cell 0
      have c13_Q0_1 := Q0.cell 1
      have c13_Q0_2 := Q0.cell 2
      have c13_Q1_0 := Q1.cell 0
      have c13_Q1_1 := Q1.cell 1
      have c13_Q1_2 := Q1.cell 2
      have c13_Q1_3 := Q1.cell 3
      have c13_Q1_4 := Q1.cell 4
      have c13_Q1_5 := Q1.cell 5
      have c13_Px0_0 := Px0.cell 0
      have c13_Px0_1 := Px0.cell 1
      have c13_Px0_2 := Px0.cell 2
      have c13_Px1_0 := Px1.cell 0
      have c13_Px1_1 := Px1.cell 1
      have c13_Px1_2 := Px1.cell 2
      have c13_Px1_3 := Px1.cell 3
      have c13_Px1_4 := Px1.cell 4
      have c13_Px1_5 := Px1.cell 5
      have lt13_Q0 := Q0.lt
      have lt13_Q1 := Q1.lt
      have lt13_Px0 := Px0.lt
      have lt13_Px1 := Px1.lt
      go_wp2_with fail
      refine (markDisk_any x0 _ fx0 _ _ (1) _ (by omega) Ox0.out Nx0.out (by omega)).mono ?_
      rintro e u14 ⟨lx0, rfl, ox0, kx0, ht14⟩
      clear c13_Q0_0 c13_Q0_1 c13_Q0_2 c13_Q1_0 c13_Q1_1 c13_Q1_2 c13_Q1_3 c13_Q1_4 c13_Q1_5 c13_Px0_0 c13_Px0_1 c13_Px0_2 c13_Px1_0 c13_Px1_1 c13_Px1_2 c13_Px1_3 c13_Px1_4 c13_Px1_5 lt13_Q0 lt13_Q1 lt13_Px0 lt13_Px1
      have S14 := hide (show ue1_1.heap.size ≤ u14.heap.size from ht14.size)
      have B14 := hide (B13.out.trans (ht14.to_below B13.out.size (fun g hg => by have := Lx0.out g hg; have := S1.out; have := S2.out; have := S3.out; have := S4.out; have := S5.out; have := S6.out; have := S7.out; have := S8.out; have := S9.out; have := S10.out; have := S11.out; have := S12.out; have := S13.out; omega)))
      have Q0 := rowTouch Q0 ht14 (fun hg => by have := Lx0.out _ hg; have := S1.out; have := S2.out; have := S3.out; have := S4.out; have := S5.out; have := S6.out; have := S7.out; have := S8.out; have := S9.out; have := S10.out; have := S11.out; have := S12.out; have := S13.out; omega)
      have Q1 := rowTouch Q1 ht14 (fun hg => by have := Lx0.out _ hg; have := S1.out; have := S2.out; have := S3.out; have := S4.out; have := S5.out; have := S6.out; have := S7.out; have := S8.out; have := S9.out; have := S10.out; have := S11.out; have := S12.out; have := S13.out; omega)
      have Px0 := rowTouch Px0 ht14 (fun hg => by have := Lx0.out _ hg; have := S1.out; have := S2.out; have := S3.out; have := S4.out; have := S5.out; have := S6.out; have := S7.out; have := S8.out; have := S9.out; have := S10.out; have := S11.out; have := S12.out; have := S13.out; omega)
      have Px1 := rowTouch Px1 ht14 (fun hg => by have := Lx0.out _ hg; have := S1.out; have := S2.out; have := S3.out; have := S4.out; have := S5.out; have := S6.out; have := S7.out; have := S8.out; have := S9.out; have := S10.out; have := S11.out; have := S12.out; have := S13.out; omega)
      have Ow0 := hide (Ow0.out.touch ht14 Nw0.out.lt (fun g hg hg2 => by have := Lw0.out g hg; have := Lx0.out g hg2; have := S1.out; have := S2.out; have := S3.out; have := S4.out; have := S5.out; have := S6.out; have := S7.out; have := S8.out; have := S9.out; have := S10.out; have := S11.out; have := S12.out; have := S13.out; omega))
      have Nw0 := hide (ht14.new Nw0.out)
      have Ox1 := hide (Ox1.out.touch ht14 Nx1.out.lt (fun g hg hg2 => by have := Lx1.out g hg; have := Lx0.out g hg2; have := S1.out; have := S2.out; have := S3.out; have := S4.out; have := S5.out; have := S6.out; have := S7.out; have := S8.out; have := S9.out; have := S10.out; have := S11.out; have := S12.out; have := S13.out; omega))
      have Nx1 := hide (ht14.new Nx1.out)
      have Og0 := hide (Og0.out.touch ht14 Ng0.out.lt (fun g hg hg2 => by have := Lg0.out g hg; have := Lx0.out g hg2; have := S1.out; have := S2.out; have := S3.out; have := S4.out; have := S5.out; have := S6.out; have := S7.out; have := S8.out; have := S9.out; have := S10.out; have := S11.out; have := S12.out; have := S13.out; omega))
      have Ng0 := hide (ht14.new Ng0.out)
      have Ox0 := hide ox0
      have Nx0 := hide (ht14.new Nx0.out)
      have Kx0 := hide kx0
      clear ox0 kx0 ht14
      have c14_Q0_0 := Q0.cell 0
      have c14_Q0_1 := Q0.cell 1
      have c14_Q0_2 := Q0.cell 2
      have c14_Q1_0 := Q1.cell 0
      have c14_Q1_1 := Q1.cell 1
      have c14_Q1_2 := Q1.cell 2
      have c14_Q1_3 := Q1.cell 3
      have c14_Q1_4 := Q1.cell 4
      have c14_Q1_5 := Q1.cell 5
      have c14_Px0_0 := Px0.cell 0
      have c14_Px0_1 := Px0.cell 1
      have c14_Px0_2 := Px0.cell 2
      have c14_Px1_0 := Px1.cell 0
      have c14_Px1_1 := Px1.cell 1
      have c14_Px1_2 := Px1.cell 2
      have c14_Px1_3 := Px1.cell 3
      have c14_Px1_4 := Px1.cell 4
      have c14_Px1_5 := Px1.cell 5
      have lt14_Q0 := Q0.lt
      have lt14_Q1 := Q1.lt
      have lt14_Px0 := Px0.lt
      have lt14_Px1 := Px1.lt
      go_wp2_with fail
      refine (markLogAct_any x1 _ fx1 _ _ (1 + x0.cntTop) _ (by omega) Ox1.out Nx1.out (by omega)).mono ?_
      rintro e u15 ⟨lx1, rfl, ox1, kx1, ht15⟩
      clear c14_Q0_0 c14_Q0_1 c14_Q0_2 c14_Q1_0 c14_Q1_1 c14_Q1_2 c14_Q1_3 c14_Q1_4 c14_Q1_5 c14_Px0_0 c14_Px0_1 c14_Px0_2 c14_Px1_0 c14_Px1_1 c14_Px1_2 c14_Px1_3 c14_Px1_4 c14_Px1_5 lt14_Q0 lt14_Q1 lt14_Px0 lt14_Px1
      have S15 := hide (show u14.heap.size ≤ u15.heap.size from ht15.size)
      have B15 := hide (B14.out.trans (ht15.to_below B14.out.size (fun g hg => by have := Lx1.out g hg; have := S1.out; have := S2.out; have := S3.out; have := S4.out; have := S5.out; have := S6.out; have := S7.out; have := S8.out; have := S9.out; have := S10.out; have := S11.out; have := S12.out; have := S13.out; have := S14.out; omega)))
      have Q0 := rowTouch Q0 ht15 (fun hg => by have := Lx1.out _ hg; have := S1.out; have := S2.out; have := S3.out; have := S4.out; have := S5.out; have := S6.out; have := S7.out; have := S8.out; have := S9.out; have := S10.out; have := S11.out; have := S12.out; have := S13.out; have := S14.out; omega)
      have Q1 := rowTouch Q1 ht15 (fun hg => by have := Lx1.out _ hg; have := S1.out; have := S2.out; have := S3.out; have := S4.out; have := S5.out; have := S6.out; have := S7.out; have := S8.out; have := S9.out; have := S10.out; have := S11.out; have := S12.out; have := S13.out; have := S14.out; omega)
      have Px0 := rowTouch Px0 ht15 (fun hg => by have := Lx1.out _ hg; have := S1.out; have := S2.out; have := S3.out; have := S4.out; have := S5.out; have := S6.out; have := S7.out; have := S8.out; have := S9.out; have := S10.out; have := S11.out; have := S12.out; have := S13.out; have := S14.out; omega)
      have Px1 := rowTouch Px1 ht15 (fun hg => by have := Lx1.out _ hg; have := S1.out; have := S2.out; have := S3.out; have := S4.out; have := S5.out; have := S6.out; have := S7.out; have := S8.out; have := S9.out; have := S10.out; have := S11.out; have := S12.out; have := S13.out; have := S14.out; omega)
      have Ow0 := hide (Ow0.out.touch ht15 Nw0.out.lt (fun g hg hg2 => by have := Lw0.out g hg; have := Lx1.out g hg2; have := S1.out; have := S2.out; have := S3.out; have := S4.out; have := S5.out; have := S6.out; have := S7.out; have := S8.out; have := S9.out; have := S10.out; have := S11.out; have := S12.out; have := S13.out; have := S14.out; omega))
      have Nw0 := hide (ht15.new Nw0.out)
      have Ox0 := hide (Ox0.out.touch ht15 Nx0.out.lt (fun g hg hg2 => by have := Lx0.out g hg; have := Lx1.out g hg2; have := S1.out; have := S2.out; have := S3.out; have := S4.out; have := S5.out; have := S6.out; have := S7.out; have := S8.out; have := S9.out; have := S10.out; have := S11.out; have := S12.out; have := S13.out; have := S14.out; omega))
      have Nx0 := hide (ht15.new Nx0.out)
      have Og0 := hide (Og0.out.touch ht15 Ng0.out.lt (fun g hg hg2 => by have := Lg0.out g hg; have := Lx1.out g hg2; have := S1.out; have := S2.out; have := S3.out; have := S4.out; have := S5.out; have := S6.out; have := S7.out; have := S8.out; have := S9.out; have := S10.out; have := S11.out; have := S12.out; have := S13.out; have := S14.out; omega))
      have Ng0 := hide (ht15.new Ng0.out)
      have Ox1 := hide ox1
      have Nx1 := hide (ht15.new Nx1.out)
      have Kx1 := hide kx1
      clear ox1 kx1 ht15
      have c15_Q0_0 := Q0.cell 0
      have c15_Q0_1 := Q0.cell 1
      have c15_Q0_2 := Q0.cell 2
      have c15_Q1_0 := Q1.cell 0
      have c15_Q1_1 := Q1.cell 1
      have c15_Q1_2 := Q1.cell 2
      have c15_Q1_3 := Q1.cell 3
      have c15_Q1_4 := Q1.cell 4
      have c15_Q1_5 := Q1.cell 5
      have c15_Px0_0 := Px0.cell 0
      have c15_Px0_1 := Px0.cell 1
      have c15_Px0_2 := Px0.cell 2
      have c15_Px1_0 := Px1.cell 0
      have c15_Px1_1 := Px1.cell 1
      have c15_Px1_2 := Px1.cell 2
      have c15_Px1_3 := Px1.cell 3
      have c15_Px1_4 := Px1.cell 4
      have c15_Px1_5 := Px1.cell 5
      have lt15_Q0 := Q0.lt
      have lt15_Q1 := Q1.lt
      have lt15_Px0 := Px0.lt
      have lt15_Px1 := Px1.lt
      go_wp2_with fail
      refine (eqDiskWriteS_any r0 _ _ _ _ _ _ _ _ _ Og0.out Ow0.out Ng0.out.lt Nw0.out.lt).mono ?_
      rintro e u16 ⟨rfl, hb16⟩
      clear c15_Q0_0 c15_Q0_1 c15_Q0_2 c15_Q1_0 c15_Q1_1 c15_Q1_2 c15_Q1_3 c15_Q1_4 c15_Q1_5 c15_Px0_0 c15_Px0_1 c15_Px0_2 c15_Px1_0 c15_Px1_1 c15_Px1_2 c15_Px1_3 c15_Px1_4 c15_Px1_5 lt15_Q0 lt15_Q1 lt15_Px0 lt15_Px1
      have S16 := hide (show u15.heap.size ≤ u16.heap.size from by have := hb16.size; simpa only [World.size_alloc, size_setRow] using this)
      have B16 := hide (B15.out.trans (hb16.mono B15.out.size))
      have Q0 := Q0.below hb16 Q0.lt
      have Q1 := Q1.below hb16 Q1.lt
      have Ow0 := hide (Ow0.out.below hb16 Nw0.out.lt)
      have Nw0 := hide (Nw0.out.below hb16 Nw0.out.lt)
      have Og0 := hide (Og0.out.below hb16 Ng0.out.lt)
      have Ng0 := hide (Ng0.out.below hb16 Ng0.out.lt)
      clear hb16
      have c16_Q0_0 := Q0.cell 0
      have c16_Q0_1 := Q0.cell 1
      have c16_Q0_2 := Q0.cell 2
      have c16_Q1_0 := Q1.cell 0
      have c16_Q1_1 := Q1.cell 1
      have c16_Q1_2 := Q1.cell 2
      have c16_Q1_3 := Q1.cell 3
      have c16_Q1_4 := Q1.cell 4
      have c16_Q1_5 := Q1.cell 5
      have lt16_Q0 := Q0.lt
      have lt16_Q1 := Q1.lt
      go_wp2_with fail
      refine (markDiskWriteS_any r0 _ _ _ fg0 _ _ (1) _ (by omega) Og0.out Ng0.out (by omega)).mono ?_
      rintro e u17 ⟨lg0, rfl, qg0, og0, kg0, ht17⟩
      clear c16_Q0_0 c16_Q0_1 c16_Q0_2 c16_Q1_0 c16_Q1_1 c16_Q1_2 c16_Q1_3 c16_Q1_4 c16_Q1_5 lt16_Q0 lt16_Q1
      have S17 := hide (show u16.heap.size ≤ u17.heap.size from ht17.size)
      have B17 := hide (B16.out.trans (ht17.to_below B16.out.size (fun g hg => by have := Lg0.out g hg; have := S1.out; have := S2.out; have := S3.out; have := S4.out; have := S5.out; have := S6.out; have := S7.out; have := S8.out; have := S9.out; have := S10.out; have := S11.out; have := S12.out; have := S13.out; have := S14.out; have := S15.out; have := S16.out; omega)))
      have Q0 := rowTouch Q0 ht17 (fun hg => by have := Lg0.out _ hg; have := S1.out; have := S2.out; have := S3.out; have := S4.out; have := S5.out; have := S6.out; have := S7.out; have := S8.out; have := S9.out; have := S10.out; have := S11.out; have := S12.out; have := S13.out; have := S14.out; have := S15.out; have := S16.out; omega)
      have Q1 := rowTouch Q1 ht17 (fun hg => by have := Lg0.out _ hg; have := S1.out; have := S2.out; have := S3.out; have := S4.out; have := S5.out; have := S6.out; have := S7.out; have := S8.out; have := S9.out; have := S10.out; have := S11.out; have := S12.out; have := S13.out; have := S14.out; have := S15.out; have := S16.out; omega)
      have Ow0 := hide (Ow0.out.touch ht17 Nw0.out.lt (fun g hg hg2 => by have := Lw0.out g hg; have := Lg0.out g hg2; have := S1.out; have := S2.out; have := S3.out; have := S4.out; have := S5.out; have := S6.out; have := S7.out; have := S8.out; have := S9.out; have := S10.out; have := S11.out; have := S12.out; have := S13.out; have := S14.out; have := S15.out; have := S16.out; omega))
      have Nw0 := hide (ht17.new Nw0.out)
      have Og0 := hide og0
      have Ng0 := hide (ht17.new Ng0.out)
      have Kg0 := hide kg0
      clear og0 kg0 ht17 qg0
      have c17_Q0_0 := Q0.cell 0
      have c17_Q0_1 := Q0.cell 1
      have c17_Q0_2 := Q0.cell 2
      have c17_Q1_0 := Q1.cell 0
      have c17_Q1_1 := Q1.cell 1
      have c17_Q1_2 := Q1.cell 2
      have c17_Q1_3 := Q1.cell 3
      have c17_Q1_4 := Q1.cell 4
      have c17_Q1_5 := Q1.cell 5
      have lt17_Q0 := Q0.lt
      have lt17_Q1 := Q1.lt
      go_wp2_with fail
      refine (heldDiskWriteS_any lg0 _ _ _ fg0 _ (1) (1 + DiskWrite.cntS r0) _ (by omega) Og0.out Ng0.out.lt Kg0.out (by omega)).mono ?_
      rintro e u18 ⟨rfl, hb18⟩
      clear c17_Q0_0 c17_Q0_1 c17_Q0_2 c17_Q1_0 c17_Q1_1 c17_Q1_2 c17_Q1_3 c17_Q1_4 c17_Q1_5 lt17_Q0 lt17_Q1
      have S18 := hide (show u17.heap.size ≤ u18.heap.size from by have := hb18.size; simpa only [World.size_alloc, size_setRow] using this)
      have B18 := hide (B17.out.trans (hb18.mono B17.out.size))
      have Q0 := Q0.below hb18 Q0.lt
      have Q1 := Q1.below hb18 Q1.lt
      have Ow0 := hide (Ow0.out.below hb18 Nw0.out.lt)
      have Nw0 := hide (Nw0.out.below hb18 Nw0.out.lt)
      have Og0 := hide (Og0.out.below hb18 Ng0.out.lt)
      have Ng0 := hide (Ng0.out.below hb18 Ng0.out.lt)
      clear hb18
      have c18_Q0_0 := Q0.cell 0
      have c18_Q0_1 := Q0.cell 1
      have c18_Q0_2 := Q0.cell 2
      have c18_Q1_0 := Q1.cell 0
      have c18_Q1_1 := Q1.cell 1
      have c18_Q1_2 := Q1.cell 2
      have c18_Q1_3 := Q1.cell 3
      have c18_Q1_4 := Q1.cell 4
      have c18_Q1_5 := Q1.cell 5
      have lt18_Q0 := Q0.lt
      have lt18_Q1 := Q1.lt
      go_wp2
      go_region_held3 (fun w' => w'.cell? ⟨w.heap.size, 0, none⟩ = some (.slice a0A1 x0.files.length a0c1) ∧ w'.cell? ⟨w.heap.size, 1, none⟩ = some (.slice a0A2 x0.names.length a0c2) ∧ w'.cell? ⟨w.heap.size, 2, none⟩ = some (.slice a0A3 x0.moves.length a0c3) ∧ w'.cell? ⟨w.heap.size + 1, 0, none⟩ = some (.int .i64 x1.kind) ∧ w'.cell? ⟨w.heap.size + 1, 1, none⟩ = some (.string x1.data) ∧ w'.cell? ⟨w.heap.size + 1, 2, none⟩ = some (.bool x1.cuts) ∧ w'.cell? ⟨w.heap.size + 1, 3, none⟩ = some (.int .i64 x1.after) ∧ w'.cell? ⟨w.heap.size + 1, 4, none⟩ = some (.int .i64 x1.moves) ∧ w'.cell? ⟨w.heap.size + 1, 5, none⟩ = some (.slice a1A1 x1.keep.length a1c1))
        (first | go_keep | exact ⟨mhr_2_Q0.cell 0, mhr_2_Q0.cell 1, mhr_2_Q0.cell 2, mhr_2_Q1.cell 0, mhr_2_Q1.cell 1, mhr_2_Q1.cell 2, mhr_2_Q1.cell 3, mhr_2_Q1.cell 4, mhr_2_Q1.cell 5⟩ | exact ⟨mhr_1_Q0.cell 0, mhr_1_Q0.cell 1, mhr_1_Q0.cell 2, mhr_1_Q1.cell 0, mhr_1_Q1.cell 1, mhr_1_Q1.cell 2, mhr_1_Q1.cell 3, mhr_1_Q1.cell 4, mhr_1_Q1.cell 5⟩ | exact ⟨mhr_0_Q0.cell 0, mhr_0_Q0.cell 1, mhr_0_Q0.cell 2, mhr_0_Q1.cell 0, mhr_0_Q1.cell 1, mhr_0_Q1.cell 2, mhr_0_Q1.cell 3, mhr_0_Q1.cell 4, mhr_0_Q1.cell 5⟩)
        (first
          | (go_at_call 18; refine (implLogWrites_any x0 _ _ x1 _ _ _ (yht0.below hhr_1 zht0.lt) (zht0.lt.mono hhr_1.size) (by omega) yht1 zht1.lt (by omega) (HTB.out.below ((B18.out.drew.trans (hhr_0.mono B18.out.drew.size)).trans (hhr_1.mono (B18.out.drew.trans (hhr_0.mono B18.out.drew.size)).size))) (Nat.lt_of_lt_of_le hw7 (((B18.out.drew.trans (hhr_0.mono B18.out.drew.size)).trans (hhr_1.mono (B18.out.drew.trans (hhr_0.mono B18.out.drew.size)).size))).size)).mono ?_; rintro e uhr_2 ⟨vh0, fh0, rfl, yh0, zh0, hhr_2⟩; have mhr_2_Q0 := mhr_1_Q0.below hhr_2 mhr_1_Q0.lt; have mhr_2_Q1 := mhr_1_Q1.below hhr_2 mhr_1_Q1.lt)
          | (go_at_call 17; refine (toLogAct_any x1 _ _ _ (HO1.out.below (B18.out.drew.trans (hhr_0.mono B18.out.drew.size)) hl1) (hl1.up (B18.out.drew.trans (hhr_0.mono B18.out.drew.size))) (by omega)).mono ?_; rintro e uhr_1 ⟨vht1, fht1, rfl, yht1, zht1, hhr_1⟩; have mhr_1_Q0 := mhr_0_Q0.below hhr_1 mhr_0_Q0.lt; have mhr_1_Q1 := mhr_0_Q1.below hhr_1 mhr_0_Q1.lt)
          | (go_at_call 8; refine (toDisk_any x0 _ _ _ (HO0.out.below B18.out.drew hl0) (hl0.up B18.out.drew) (by omega)).mono ?_; rintro e uhr_0 ⟨vht0, fht0, rfl, yht0, zht0, hhr_0⟩; have mhr_0_Q0 := (Q0.drewN 1).below hhr_0 (by exact Q0.lt); have mhr_0_Q1 := (Q1.drewN 1).below hhr_0 (by exact Q1.lt)))
      clear c18_Q0_0 c18_Q0_1 c18_Q0_2 c18_Q1_0 c18_Q1_1 c18_Q1_2 c18_Q1_3 c18_Q1_4 c18_Q1_5 lt18_Q0 lt18_Q1
      have hzhr : Below u18.heap.size u18 uhr_0 := ⟨hhr_0.os, hhr_0.tape, hhr_0.output, hhr_0.size, hhr_0.block⟩
      clear mhr_0_Q0 mhr_0_Q1 mhr_1_Q0 mhr_1_Q1 mhr_2_Q0 mhr_2_Q1
      have S19 := hide (show u18.heap.size ≤ uhr_0.heap.size from by have := hzhr.size; simpa only [World.size_alloc, size_setRow] using this)
      have B19 := hide (B18.out.trans (hzhr.mono B18.out.size))
      have Q0 := Q0.below hzhr Q0.lt
      have Q1 := Q1.below hzhr Q1.lt
      have Ow0 := hide (Ow0.out.below hzhr Nw0.out.lt)
      have Nw0 := hide (Nw0.out.below hzhr Nw0.out.lt)
      have Og0 := hide (Og0.out.below hzhr Ng0.out.lt)
      have Ng0 := hide (Ng0.out.below hzhr Ng0.out.lt)
      have Oht0 := hide yht0
      have Nht0 := hide zht0
      have Lht0 := hide (show ∀ g ∈ fht0, u18.heap.size ≤ g ∧ g < uhr_0.heap.size from fun g hg => ⟨by have := (zht0.fr g hg).1; first | exact this | simpa only [World.size_alloc, size_setRow] using this, zht0.lt g hg⟩)
      clear yht0 zht0
      have S20 := hide (show uhr_0.heap.size ≤ uhr_1.heap.size from by have := hhr_1.size; simpa only [World.size_alloc, size_setRow] using this)
      have B20 := hide (B19.out.trans (hhr_1.mono B19.out.size))
      have Q0 := Q0.below hhr_1 Q0.lt
      have Q1 := Q1.below hhr_1 Q1.lt
      have Ow0 := hide (Ow0.out.below hhr_1 Nw0.out.lt)
      have Nw0 := hide (Nw0.out.below hhr_1 Nw0.out.lt)
      have Og0 := hide (Og0.out.below hhr_1 Ng0.out.lt)
      have Ng0 := hide (Ng0.out.below hhr_1 Ng0.out.lt)
      have Oht0 := hide (Oht0.out.below hhr_1 Nht0.out.lt)
      have Nht0 := hide (Nht0.out.below hhr_1 Nht0.out.lt)
      have Oht1 := hide yht1
      have Nht1 := hide zht1
      have Lht1 := hide (show ∀ g ∈ fht1, uhr_0.heap.size ≤ g ∧ g < uhr_1.heap.size from fun g hg => ⟨by have := (zht1.fr g hg).1; first | exact this | simpa only [World.size_alloc, size_setRow] using this, zht1.lt g hg⟩)
      clear yht1 zht1
      have S21 := hide (show uhr_1.heap.size ≤ uhr_2.heap.size from by have := hhr_2.size; simpa only [World.size_alloc, size_setRow] using this)
      have B21 := hide (B20.out.trans (hhr_2.mono B20.out.size))
      have Q0 := Q0.below hhr_2 Q0.lt
      have Q1 := Q1.below hhr_2 Q1.lt
      have Ow0 := hide (Ow0.out.below hhr_2 Nw0.out.lt)
      have Nw0 := hide (Nw0.out.below hhr_2 Nw0.out.lt)
      have Og0 := hide (Og0.out.below hhr_2 Ng0.out.lt)
      have Ng0 := hide (Ng0.out.below hhr_2 Ng0.out.lt)
      have Oht0 := hide (Oht0.out.below hhr_2 Nht0.out.lt)
      have Nht0 := hide (Nht0.out.below hhr_2 Nht0.out.lt)
      have Oht1 := hide (Oht1.out.below hhr_2 Nht1.out.lt)
      have Nht1 := hide (Nht1.out.below hhr_2 Nht1.out.lt)
      clear hhr_0 hhr_1 hhr_2 hzhr
      rw [← HR0.out] at yh0
      have Oh0 := hide yh0
      have Nh0 := hide zh0
      have Lh0 := hide (show ∀ g ∈ fh0, uhr_1.heap.size ≤ g ∧ g < uhr_2.heap.size from fun g hg => ⟨by have := (zh0.fr g hg).1; first | exact this | simpa only [World.size_alloc, size_setRow] using this, zh0.lt g hg⟩)
      clear yh0 zh0
      obtain ⟨h0A, h0c, rfl, _, _⟩ := Oh0.out.slice
      have c21_Q0_0 := Q0.cell 0
      have c21_Q0_1 := Q0.cell 1
      have c21_Q0_2 := Q0.cell 2
      have c21_Q1_0 := Q1.cell 0
      have c21_Q1_1 := Q1.cell 1
      have c21_Q1_2 := Q1.cell 2
      have c21_Q1_3 := Q1.cell 3
      have c21_Q1_4 := Q1.cell 4
      have c21_Q1_5 := Q1.cell 5
      have lt21_Q0 := Q0.lt
      have lt21_Q1 := Q1.lt
      go_wp2_with fail
      refine (eqDiskWriteS_any r0 _ _ _ _ _ _ _ _ _ Oh0.out Ow0.out Nh0.out.lt Nw0.out.lt).mono ?_
      rintro e u22 ⟨rfl, hb22⟩
      clear c21_Q0_0 c21_Q0_1 c21_Q0_2 c21_Q1_0 c21_Q1_1 c21_Q1_2 c21_Q1_3 c21_Q1_4 c21_Q1_5 lt21_Q0 lt21_Q1
      have S22 := hide (show uhr_2.heap.size ≤ u22.heap.size from by have := hb22.size; simpa only [World.size_alloc, size_setRow] using this)
      have B22 := hide (B21.out.trans (hb22.mono B21.out.size))
      have Q0 := Q0.below hb22 Q0.lt
      have Q1 := Q1.below hb22 Q1.lt
      have Ow0 := hide (Ow0.out.below hb22 Nw0.out.lt)
      have Nw0 := hide (Nw0.out.below hb22 Nw0.out.lt)
      have Og0 := hide (Og0.out.below hb22 Ng0.out.lt)
      have Ng0 := hide (Ng0.out.below hb22 Ng0.out.lt)
      have Oh0 := hide (Oh0.out.below hb22 Nh0.out.lt)
      have Nh0 := hide (Nh0.out.below hb22 Nh0.out.lt)
      clear hb22
      have c22_Q0_0 := Q0.cell 0
      have c22_Q0_1 := Q0.cell 1
      have c22_Q0_2 := Q0.cell 2
      have c22_Q1_0 := Q1.cell 0
      have c22_Q1_1 := Q1.cell 1
      have c22_Q1_2 := Q1.cell 2
      have c22_Q1_3 := Q1.cell 3
      have c22_Q1_4 := Q1.cell 4
      have c22_Q1_5 := Q1.cell 5
      have lt22_Q0 := Q0.lt
      have lt22_Q1 := Q1.lt
      go_wp2_with fail
      refine (heldDiskWriteS_any lg0 _ _ _ fg0 _ (1) (1 + DiskWrite.cntS r0) _ (by omega) Og0.out Ng0.out.lt Kg0.out (by omega)).mono ?_
      rintro e u23 ⟨rfl, hb23⟩
      clear c22_Q0_0 c22_Q0_1 c22_Q0_2 c22_Q1_0 c22_Q1_1 c22_Q1_2 c22_Q1_3 c22_Q1_4 c22_Q1_5 lt22_Q0 lt22_Q1
      have S23 := hide (show u22.heap.size ≤ u23.heap.size from by have := hb23.size; simpa only [World.size_alloc, size_setRow] using this)
      have B23 := hide (B22.out.trans (hb23.mono B22.out.size))
      have Q0 := Q0.below hb23 Q0.lt
      have Q1 := Q1.below hb23 Q1.lt
      have Ow0 := hide (Ow0.out.below hb23 Nw0.out.lt)
      have Nw0 := hide (Nw0.out.below hb23 Nw0.out.lt)
      have Og0 := hide (Og0.out.below hb23 Ng0.out.lt)
      have Ng0 := hide (Ng0.out.below hb23 Ng0.out.lt)
      have Oh0 := hide (Oh0.out.below hb23 Nh0.out.lt)
      have Nh0 := hide (Nh0.out.below hb23 Nh0.out.lt)
      clear hb23
      have c23_Q0_0 := Q0.cell 0
      have c23_Q0_1 := Q0.cell 1
      have c23_Q0_2 := Q0.cell 2
      have c23_Q1_0 := Q1.cell 0
      have c23_Q1_1 := Q1.cell 1
      have c23_Q1_2 := Q1.cell 2
      have c23_Q1_3 := Q1.cell 3
      have c23_Q1_4 := Q1.cell 4
      have c23_Q1_5 := Q1.cell 5
      have lt23_Q0 := Q0.lt
      have lt23_Q1 := Q1.lt
      go_wp2_with fail
      go_ret
      exact ⟨rfl, B23.out⟩
    · rw [szr_no hbk1]
      go_wp2
      go_ret
      exact ⟨rfl, B2.out⟩
  · rw [szr_no hbk0]
    go_wp2
    go_ret
    exact ⟨rfl, B1.out⟩
end Go.Proofs.YtddjgbhkfdpffaaGreatDoor
