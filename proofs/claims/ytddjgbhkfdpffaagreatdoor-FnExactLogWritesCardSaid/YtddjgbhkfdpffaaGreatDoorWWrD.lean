/-
  The writes of an act on a log: the reference's greatest number of a file. Written by hand. The writes of an act on a log: the reference's closing of a segment. Printed by gen/wrc.py. The writes of an act on a log: how the reference makes a log, and what it calls its own. Printed by gen/wrb.py. The writes of an act on a log: what the reference calls the log's own. Printed by gen/wrd.py.
-/
import Derived.Deep.RegionHeld3
import Derived.BigQuiet
import Derived.Test.YtddjgbhkfdpffaaGreatDoorWCutI
import Derived.Test.YtddjgbhkfdpffaaGreatDoorWPlanWS
import Derived.Test.YtddjgbhkfdpffaaGreatDoorWWrP
set_option linter.unusedVariables false
set_option linter.unusedSimpArgs false
namespace Go.Proofs.YtddjgbhkfdpffaaGreatDoor
open Go.ChangeShapes Go.WideShapes Go.ChangeAt Go.RowKit

theorem l43Num_s (s : ByteArray) (w : World) (hs : s.size ≤ 1048576) :
    Calls Tryz.prog 79 #[.string s, .int .u8 115] w fun e w' => e = .returned (.int .i64 (fileNum s 115 : Int)) ∧ Below w.heap.size w w' := l43Num_any s 115 w hs
set_option maxRecDepth 100000 in
set_option maxHeartbeats 2000000 in
theorem l44Top_any (d : Disk) (us0 : List Value) (fp : List Nat) (w : World) (h : OwC w d.cells us0 fp) (hf : Lt fp w.heap.size) (hnm : ∀ i (hi : i < d.files.length), d.files[i].name.size ≤ 1048576) :
    Calls Tryz.prog 101 #[.agg us0.toArray] w fun e w' => e = .returned (.int .i64 (topOf d.fileList : Int)) ∧ Below w.heap.size w w' := by
  obtain ⟨A1, c1, A2, c2, A3, c3, f1, f2, f3, rfl, o1, o2, o3, rfl⟩ := h.oDisk
  have O1 := hide o1
  have hml := o1.nlen
  unfold maxLen at hml
  clear h o1 o2 o3
  go_enter Tryz.func101, Tryz.ntmps101
  go_upto_region 1 with fail
  generalize hwA : w.alloc (.cells #[.slice A1 d.files.length c1, .slice A2 d.names.length c2, .slice A3 d.moves.length c3] 38) = wA
  have hA : Below w.heap.size w wA := by rw [← hwA]; exact (Below.refl _ _).alloc (Nat.le_refl _) _
  have RA : Row wA w.heap.size 38 [.slice A1 d.files.length c1, .slice A2 d.names.length c2, .slice A3 d.moves.length c3] := by rw [← hwA]; exact Row.new w _ _
  have HRD := hide RA
  have HB1 := hide hA
  clear hwA hA RA
  go_wp2
  go_loopw [3, 4] (fun t i wr => ∃ (j m : Nat), t = .int .i64 (m : Int) ∧ i = .int .i64 (j : Int) ∧ j ≤ d.files.length ∧ topOf (d.fileList.take j) = m ∧ m ≤ 999999 ∧ Row wr w.heap.size 38 [.slice A1 d.files.length c1, .slice A2 d.names.length c2, .slice A3 d.moves.length c3] ∧ Below w.heap.size w wr) (fun _ i _ => d.files.length - (intOf i).toNat)
  case atStart => exact ⟨0, 0, rfl, rfl, Nat.zero_le _, rfl, by decide, HRD.out, HB1.out⟩
  case round =>
    clear HRD HB1
    obtain ⟨j, m, rfl, rfl, hj, htp, hm9, hrd, hbw⟩ := hrel
    have HRD := hide hrd
    have HB := hide hbw
    have HTP := hide htp
    have d0 := hrd.cell 0
    have ld := hrd.lt
    clear hrd hbw htp
    by_cases hlt : j < d.files.length
    · obtain ⟨g, off, ws, fi, rfl, hgm, hfi, hwl, hcs, hov⟩ := (O1.out.below HB.out hf.left).elem DiskFile.cells_len hlt
      obtain ⟨rfl, hs0, hs1, hw2, rfl⟩ := hov.oDiskFile
      have p0 := hcs 0 _ rfl
      simp only [Nat.add_zero] at p0
      have hgw := cell_lt p0
      have hx8 := hnm j hlt
      have hji : (j : Int) < (d.files.length : Int) := by omega
      have hfl : j < d.fileList.length := by unfold Disk.fileList; rw [List.length_map]; exact hlt
      have hnx := topOf_succ d.fileList j hfl
      have hnm2 : d.fileList[j] = d.files[j].name := List.getElem_map DiskFile.name
      rw [hnm2, HTP.out] at hnx
      have h0a := fileNum_le d.files[j].name 109
      have h0b := fileNum_le d.files[j].name 115
      have h0t := fileTop_le d.files[j].name
      have HA := hide (fun W => l43Num_m d.files[j].name W hx8)
      have HS := hide (fun W => l43Num_s d.files[j].name W hx8)
      unfold fileTop at hnx h0t
      have HNX := hide hnx
      clear hcs hov hnx hnm2 hs0 hs1 hw2 hfl
      generalize fileNum d.files[j].name 109 = a at *
      generalize fileNum d.files[j].name 115 = b at *
      have hww : IntKind.i64.wrap ((a : Int) + (b : Int)) = ((a + b : Nat) : Int) := by rw [wrapI _ (by omega) (by omega)]; omega
      have hab : ((a : Int) + (b : Int)) = ((a + b : Nat) : Int) := by omega
      obtain ⟨t, ht⟩ : ∃ t, a + b = t := ⟨_, rfl⟩
      rw [ht] at hww hab h0t HNX
      have HABT := hide ht
      clear ht hab
      generalize d.files[j] = x at *
      go_wp2_with fail
      go_region_held3 (fun w' => w'.cell? ⟨w.heap.size, 0, none⟩ = some (.slice (some ⟨g, off, none⟩) d.files.length c1) ∧ w'.cell? ⟨g, off + j * 3, none⟩ = some (.string x.name))
        (first | exact ⟨kcell2 d0 hbz ld, kcell2 p0 hbz hgw⟩ | go_keep)
        (first
          | (go_at_call 79; (with_reducible show Calls _ _ #[_, .int .u8 109] _ _); refine (HA.out _).mono ?_; rintro e w4 ⟨rfl, hb4⟩; have hbz : Below wr.heap.size wr w4 := (below_drewN (Below.refl _ wr) _).trans hb4; have hby := hbz)
          | (go_at_call 79; (with_reducible show Calls _ _ #[_, .int .u8 115] _ _); refine (HS.out _).mono ?_; rintro e w5 ⟨rfl, hb5⟩; have hbz : Below wr.heap.size wr w5 := hby.trans (hb5.mono hby.size)))
      all_goals
        have HR5 := hide (HRD.out.below hbz HRD.out.lt)
        have HB5 := hide (HB.out.trans (hbz.mono HB.out.size))
        clear hbz hby hb4 hb5 d0 ld p0 hgw HRD HB HA HS hx8
        by_cases hgt : m < t
        · have hgi : (m : Int) < (t : Int) := by omega
          go_wp2
          go_roundw
          case rel => exact ⟨j + 1, t, by go_num, by go_num, by omega, by rw [HNX.out]; omega, h0t, HR5.out, HB5.out⟩
          case measure => simp [intOf]; omega
        · have hgi : ¬ ((m : Int) < (t : Int)) := by omega
          go_wp2
          go_roundw
          case rel => exact ⟨j + 1, m, by go_num, by go_num, by omega, by rw [HNX.out]; omega, hm9, HR5.out, HB5.out⟩
          case measure => simp [intOf]; omega
    · obtain rfl : j = d.files.length := by omega
      have hT : topOf d.fileList = m := by rw [← HTP.out, List.take_of_length_le (by unfold Disk.fileList; rw [List.length_map]; exact Nat.le_refl _)]
      have HT := hide hT
      clear hT
      go_wp2
      go_ret
      exact ⟨by rw [HT.out]; rfl, HB.out⟩
end Go.Proofs.YtddjgbhkfdpffaaGreatDoor
set_option linter.unusedVariables false
set_option linter.unusedSimpArgs false
namespace Go.Proofs.YtddjgbhkfdpffaaGreatDoor
open Go.ChangeShapes Go.WideShapes Go.ChangeAt Go.RowKit

theorem SrcAt.below {w w' : World} {ur : List Value} {A : Option Addr} {m c : Nat} (h : SrcAt w ur A m c) (hb : Below w.heap.size w w') : SrcAt w' ur A m c := by
  rcases h with h | ⟨ad, rfl, h⟩
  · exact .inl h
  · exact .inr ⟨ad, rfl, fun j u hu => (hb.cell (World.block_lt_of_cell? w _ (h j u hu))).trans (h j u hu)⟩
theorem SrcAt.gb {w w' : World} {ur : List Value} {g o m c : Nat} {v v' : Value} (h : SrcAt w ur (some ⟨g, o, none⟩) m c) (hg : GB w w' v v') (hn : v.ownBlock ≠ some g) : SrcAt w' ur (some ⟨g, o, none⟩) m c := by
  rcases h with ⟨h, _⟩ | ⟨ad, e, h⟩
  · cases h
  · injection e with e
    subst e
    refine .inr ⟨_, rfl, fun j u hu => ?_⟩
    have hc := h j u hu
    have e : ((⟨g, o, none⟩ : Addr).add j).block = g := by unfold Addr.add; split <;> rfl
    have hl : g < w.heap.size := by have := World.block_lt_of_cell? w _ hc; rw [e] at this; exact this
    exact (World.cell?_of_block (by rw [e]; exact hg.grown.block g hl hn.symm)).trans hc
theorem Ow.lit0 {α : Type} (w : World) (k : Nat) (f : α → List D) (A : Option Addr) : Ow w (.s k ([] : List α).length (([] : List α).flatMap f)) (.slice A 0 0) [] := by
  unfold Ow
  exact ⟨by simp, _, 0, rfl, Nat.le_refl _, by simp [maxLen], .inl ⟨rfl, rfl⟩⟩
theorem parts_plain (l : List LogPart) : ∀ d ∈ l.flatMap LogPart.cells, ∃ x, d = .v x := fun d hd => by
  obtain ⟨x, _, hx⟩ := List.mem_flatMap.1 hd
  rw [LogPart.cells_eq] at hx
  simp only [List.mem_cons, List.not_mem_nil, or_false] at hx
  rcases hx with rfl | rfl | rfl | rfl <;> exact ⟨_, rfl⟩
theorem Ow.srcParts {w : World} {l : List LogPart} {A : Option Addr} {n c : Nat} {fp : List Nat} (h : Ow w (.s 4 l.length (l.flatMap LogPart.cells)) (.slice A n c) fp) : ∃ us, OwC w (l.flatMap LogPart.cells) us [] ∧ SrcAt w us A n c := by
  obtain ⟨us, f2, h1, h2, _⟩ := h.srcAt
  obtain rfl := OwC.plain _ (parts_plain l) h1
  exact ⟨us, h1, h2⟩
theorem OwC.far {w w' : World} {l : List D} {us : List Value} (h : OwC w l us []) : OwC w' l us [] := OwC.frame l (fun _ hg => by cases hg) h
def wrRow (x : DiskWrite) : List Value := [.int .i64 x.kind, .string x.name, .string x.data]
theorem write_ow (x : DiskWrite) (hk : (Lit.int .i64 x.kind).wf = true) (hn : x.name.size ≤ maxLen) (hd : x.data.size ≤ maxLen) (w : World) : OwC w x.cells (wrRow x) [] := OwC.mDiskWrite hk hn hd
theorem writes_ow (w : World) : ∀ (l : List DiskWrite), (∀ x ∈ l, (Lit.int .i64 x.kind).wf = true ∧ x.name.size ≤ maxLen ∧ x.data.size ≤ maxLen) → OwC w (l.flatMap DiskWrite.cells) (l.flatMap wrRow) []
  | [], _ => by simp [OwC]
  | x :: l, h => by
    have h0 := h x (by simp)
    have h1 := writes_ow w l (fun y hy => h y (by simp [hy]))
    simpa using (write_ow x h0.1 h0.2.1 h0.2.2 w).append h1
theorem writes_lit {w : World} {g : Nat} (l : List DiskWrite) (hr : Row w g 98 (l.flatMap wrRow)) (h : ∀ x ∈ l, (Lit.int .i64 x.kind).wf = true ∧ x.name.size ≤ maxLen ∧ x.data.size ≤ maxLen) (hl : 0 < l.length ∧ l.length ≤ 1000) :
    Ow w (.s 3 l.length (l.flatMap DiskWrite.cells)) (.slice (some ⟨g, 0, none⟩) l.length l.length) [g] := by
  have hf : Fill w g 98 (l.flatMap wrRow) 0 := ⟨[], rfl, by rw [List.append_nil]; exact hr⟩
  have h2 := hf.done (writes_ow w l h) (flat_len DiskWrite.cells 3 DiskWrite.cells_len l) (n := l.length) (by unfold maxLen; omega)
  rw [if_neg (by omega)] at h2
  exact h2
theorem new_one {w : World} {g lo : Nat} {e : TypeId} {cs : List Value} (hr : Row w g e cs) (h : lo ≤ g) : New w [g] lo := New.cons (New.nil _ _) h (Unf.row hr) hr.lt
theorem names_size (n : Int) (h : 0 ≤ n ∧ n ≤ 9999999) : (segName n).size ≤ 30 ∧ (planFile n).size ≤ 30 := by
  have hd := dec_size n (by omega) (by omega)
  unfold segName planFile
  constructor <;> (rw [ByteArray.size_append]; show 1 + (dec n).size ≤ 30; omega)
theorem text_size (p : LogPlan) (h : p.ok) : p.text.size ≤ 5000 := by
  have h1 := plan_lines_size p h p.parts.length
  rw [List.take_length] at h1
  have hf := p.first_small h
  have ho := h.2.1
  have h2 := joinedText_size [p.open_, p.first] ⟨#[111, 112, 101, 110]⟩ (fun n hn => by simp only [List.mem_cons, List.not_mem_nil, or_false] at hn; rcases hn with rfl | rfl <;> omega)
  have e1 : (⟨#[111, 112, 101, 110]⟩ : ByteArray).size = 4 := rfl
  have e2 : (⟨#[10, 101, 110, 100, 10]⟩ : ByteArray).size = 5 := rfl
  have e3 : [p.open_, p.first].length = 2 := rfl
  unfold LogPlan.text LogPlan.last
  rw [ByteArray.size_append, ByteArray.size_append]
  omega
theorem closing_row (t : Int) (st : LogState) : (closing t st).flatMap wrRow = [.int .i64 1, .string (⟨#[115]⟩ ++ dec t), .string ⟨#[]⟩, .int .i64 1, .string (⟨#[109]⟩ ++ dec t), .string ⟨#[]⟩, .int .i64 2, .string (⟨#[109]⟩ ++ dec t), .string (closed t st).text, .int .i64 3, .string (⟨#[109]⟩ ++ dec t), .string ⟨#[]⟩, .int .i64 5, .string ⟨#[]⟩, .string ⟨#[]⟩, .int .i64 4, .string (⟨#[109]⟩ ++ dec st.num), .string ⟨#[]⟩, .int .i64 5, .string ⟨#[]⟩, .string ⟨#[]⟩] := rfl
theorem closing_small (t : Int) (st : LogState) (ht : 0 ≤ t ∧ t ≤ 9999999) (hn : 0 ≤ st.num ∧ st.num ≤ 9999999) (hx : (closed t st).text.size ≤ 5000) : ∀ x ∈ closing t st, (Lit.int .i64 x.kind).wf = true ∧ x.name.size ≤ maxLen ∧ x.data.size ≤ maxLen := fun x hx' => by
  have h1 := names_size t ht
  have h2 := names_size st.num hn
  have he : ByteArray.empty.size ≤ maxLen := Nat.zero_le _
  have hm : (30 : Nat) ≤ maxLen ∧ 5000 ≤ maxLen := by unfold maxLen; decide
  unfold closing planWrites wOf at hx'
  simp only [List.mem_cons, List.mem_append, List.not_mem_nil, or_false, List.cons_append, List.nil_append] at hx'
  rcases hx' with rfl | rfl | rfl | rfl | rfl | rfl | rfl
  · exact ⟨(show (Lit.int .i64 1).wf = true by decide), Nat.le_trans h1.1 hm.1, he⟩
  · exact ⟨(show (Lit.int .i64 1).wf = true by decide), Nat.le_trans h1.2 hm.1, he⟩
  · exact ⟨(show (Lit.int .i64 2).wf = true by decide), Nat.le_trans h1.2 hm.1, Nat.le_trans hx hm.2⟩
  · exact ⟨(show (Lit.int .i64 3).wf = true by decide), Nat.le_trans h1.2 hm.1, he⟩
  · exact ⟨(show (Lit.int .i64 5).wf = true by decide), he, he⟩
  · exact ⟨(show (Lit.int .i64 4).wf = true by decide), Nat.le_trans h2.2 hm.1, he⟩
  · exact ⟨(show (Lit.int .i64 5).wf = true by decide), he, he⟩
theorem write_ok {p : LogPlan} (h : p.ok) : p.write = p.text := by
  unfold LogPlan.write
  rw [if_pos (tb_true h)]
set_option maxRecDepth 100000 in
set_option maxHeartbeats 4000000 in
theorem l44Close_any (d : Disk) (us0 : List Value) (fp : List Nat) (st : LogState) (us1 : List Value) (fp1 : List Nat) (w : World) (h : OwC w d.cells us0 fp) (hf : Lt fp w.heap.size) (hs : OwC w st.cells us1 fp1) (hf1 : Lt fp1 w.heap.size) (hnm : ∀ i (hi : i < d.files.length), d.files[i].name.size ≤ 1048576) (hfl0 : d.files.length ≤ 1048576)
    (hpl : st.plan.parts.length ≤ 40) (hnum : 0 ≤ st.num ∧ st.num ≤ 9999999) (hcl : topOf d.fileList < 999999 → st.plan.parts.length < 40 → (closed ((topOf d.fileList + 1 : Nat) : Int) st).ok) :
    Calls Tryz.prog 57 #[.agg us0.toArray, .agg us1.toArray] w (WrRet2 w (closeW d.fileList st) 4) := by
  have HOC := hide h
  obtain ⟨A1, c1, A2, c2, A3, c3, f1, f2, f3, rfl, o1, o2, o3, rfl⟩ := h.oDisk
  obtain ⟨Ap, cp, Ar, cr, g1, g2, rfl, wa, wb, oA, wc, wd, we, wf, oB, rfl⟩ := hs.oLogState
  have hml := o1.nlen
  unfold maxLen at hml
  have HTOP := hide (fun (W : World) (hb : Below w.heap.size w W) => l44Top_any d _ _ W (HOC.out.below hb hf) (hf.up hb) hnm)
  obtain ⟨ur, hur, hsr⟩ := oA.srcParts
  have HUR := hide hur
  have HSR0 := hide hsr
  have HPX := hide (part_src ⟨st.plan.open_, st.plan.first, st.next, st.size⟩ wc wd wf we w)
  have HCL := hide hcl
  have hfl : d.fileList.length = d.files.length := by unfold Disk.fileList; rw [List.length_map]
  have HYES := hide (closeW_yes (names := d.fileList) (st := st))
  have HNO := hide (closeW_no (names := d.fileList) (st := st))
  rw [hfl] at HYES HNO
  have ht9 := topOf_bd d.fileList
  obtain ⟨ia, hia, ha0, ha1, ha2⟩ := info_parts8 info_part
  have HIa := hide hia
  clear h hs o1 o2 o3 oA oB wa wb hur hsr hcl hia hfl
  generalize topOf d.fileList = t at *
  go_enter Tryz.func57, Tryz.ntmps57
  go_upto_region 1 with fail
  generalize hwA : w.alloc (.cells #[.slice A1 d.files.length c1, .slice A2 d.names.length c2, .slice A3 d.moves.length c3] 38) = wA
  have hA : Below w.heap.size w wA := by rw [← hwA]; exact (Below.refl _ _).alloc (Nat.le_refl _) _
  have hsA : wA.heap.size = w.heap.size + 1 := by rw [← hwA]; simp
  have RA : Row wA w.heap.size 38 [.slice A1 d.files.length c1, .slice A2 d.names.length c2, .slice A3 d.moves.length c3] := by rw [← hwA]; exact Row.new w _ _
  try simp only [hsA]
  clear hwA
  generalize hwB : wA.alloc (.cells #[.int .i64 st.code, .int .i64 st.num, .slice Ap st.plan.parts.length cp, .int .i64 st.plan.open_, .int .i64 st.plan.first, .int .i64 st.size, .bool st.torn, .int .i64 st.next, .slice Ar st.records.length cr] 33) = wB
  have hAB : Below wA.heap.size wA wB := by rw [← hwB]; exact (Below.refl _ _).alloc (Nat.le_refl _) _
  have RZ := hide (show Row wB (w.heap.size + 1) 33 [.int .i64 st.code, .int .i64 st.num, .slice Ap st.plan.parts.length cp, .int .i64 st.plan.open_, .int .i64 st.plan.first, .int .i64 st.size, .bool st.torn, .int .i64 st.next, .slice Ar st.records.length cr] from by rw [← hwB, ← hsA]; exact Row.new wA _ _)
  have HRD := hide (RA.below hAB RA.lt)
  have HB1 := hide (hA.trans (hAB.mono hA.size))
  clear hwB hAB hA hsA RA
  have d0 := HRD.out.cell 0
  have d1 := HRD.out.cell 1
  have d2 := HRD.out.cell 2
  have ld := HRD.out.lt
  go_wp2_with fail
  refine (HTOP.out wB HB1.out).mono ?_
  rintro e w2 ⟨rfl, hb2⟩
  have HB2 := hide (HB1.out.trans (hb2.mono HB1.out.size))
  have HR2 := hide (HRD.out.below hb2 ld)
  have HZ2 := hide (RZ.out.below hb2 RZ.out.lt)
  clear hb2 d0 d1 d2 ld HTOP HRD RZ HB1
  have d0 := HR2.out.cell 0
  have ld := HR2.out.lt
  have q2 := HZ2.out.cell 2
  have ql := HZ2.out.lt
  have hwf : IntKind.i64.wrap ((d.files.length : Int) + 2) = (d.files.length : Int) + 2 := wrapI _ (by omega) (by omega)
  by_cases ht : t < 999999
  rotate_left
  · have hti : (999999 : Int) ≤ (t : Int) := by omega
    have HN := hide (HNO.out (fun h => ht h.1))
    clear HYES HNO HCL
    go_wp2
    go_ret2
    exact wr2_no HN.out (Ow.lit0 _ _ _ _) (New.nil _ _) (HB2.out.alloc HB2.out.size _)
  have hti : ¬ ((999999 : Int) ≤ (t : Int)) := by omega
  by_cases hp40 : st.plan.parts.length < 40
  rotate_left
  · have hpi : (40 : Int) ≤ (st.plan.parts.length : Int) := by omega
    have HN := hide (HNO.out (fun h => hp40 h.2.2))
    clear HYES HNO HCL
    go_wp2
    go_ret2
    exact wr2_no HN.out (Ow.lit0 _ _ _ _) (New.nil _ _) (HB2.out.alloc HB2.out.size _)
  have hpi : ¬ ((40 : Int) ≤ (st.plan.parts.length : Int)) := by omega
  by_cases hf62 : d.files.length ≤ 62
  rotate_left
  · have hfi : (64 : Int) < (d.files.length : Int) + 2 := by omega
    have HN := hide (HNO.out (fun h => hf62 h.2.1))
    clear HYES HNO HCL
    go_upto_region 2 with fail
    iterate 40 go_step
    go_wp2
    go_ret2
    exact wr2_no HN.out (Ow.lit0 _ _ _ _) (New.nil _ _) (HB2.out.alloc HB2.out.size _)
  have hfi : ¬ ((64 : Int) < (d.files.length : Int) + 2) := by omega
  have HY := hide (HYES.out ⟨ht, hf62, hp40⟩)
  have hokp := HCL.out ht hp40
  have HOKP := hide hokp
  have htx := text_size _ hokp
  have HWR := hide (write_ok hokp)
  clear HYES HNO HCL hokp
  obtain ⟨u, hu⟩ : ∃ u, u = t + 1 := ⟨_, rfl⟩
  have huw : IntKind.i64.wrap ((t : Int) + 1) = (u : Int) := by rw [wrapI _ (by omega) (by omega)]; omega
  have hu9 : u ≤ 1000000 := by omega
  rw [← hu] at HY HOKP htx HWR
  clear hu
  have hdz := dec_size (u : Int) (by omega) (by omega)
  have hnz := dec_size st.num (by omega) (by omega)
  have HDU := hide (fun W => specDecN_any u W (by omega))
  have HDN := hide (fun W => specDec_nn st.num hnum.1 (by omega) W)
  have e1 : decide ((999999 : Int) ≤ (t : Int)) = false := decide_eq_false hti
  have e2 : decide ((40 : Int) ≤ (st.plan.parts.length : Int)) = false := decide_eq_false hpi
  have e3 : decide ((64 : Int) < (d.files.length : Int) + 2) = false := decide_eq_false hfi
  go_upto_region 2 with fail
  iterate 40 go_step
  try simp only [e1, e2, e3, Bool.or_false]
  clear e1 e2 e3
  go_wp2_with fail
  refine (HDU.out w2).mono ?_
  rintro e w3 ⟨rfl, hb3⟩
  have HB3 := hide (HB2.out.trans (hb3.mono HB2.out.size))
  have HZ3 := hide (HZ2.out.below hb3 HZ2.out.lt)
  clear hb3 HB2 HR2 HZ2 d0 ld q2 ql hti hpi hfi
  go_wp2_with fail
  refine (HDU.out w3).mono ?_
  rintro e w3' ⟨rfl, hb3⟩
  have HB4 := hide (HB3.out.trans (hb3.mono HB3.out.size))
  have HZ4 := hide (HZ3.out.below hb3 HZ3.out.lt)
  clear hb3 HB3 HZ3 HDU
  have q7 := HZ4.out.cell 7
  have hq1 := HZ4.out.lt
  go_upto_region 7 with fail
  generalize hwC : w3'.alloc (.cells #[.slice none 0 0, .int .i64 (u : Int), .int .i64 st.next] 30) = w4
  have hC : Below w3'.heap.size w3' w4 := by rw [← hwC]; exact (Below.refl _ _).alloc (Nat.le_refl _) _
  have RC : Row w4 w3'.heap.size 30 [.slice none 0 0, .int .i64 (u : Int), .int .i64 st.next] := by rw [← hwC]; exact Row.new w3' _ _
  have hPL := hide RC
  have HB5 := hide (HB4.out.trans (hC.mono HB4.out.size))
  have HZ5 := hide (HZ4.out.below hC HZ4.out.lt)
  obtain ⟨bp, hbp⟩ : ∃ b, b = w3'.heap.size := ⟨_, rfl⟩
  have hbp4 : bp < w4.heap.size := by rw [hbp]; exact RC.lt
  have hbp1 : w.heap.size + 1 < bp := by rw [hbp]; exact hq1
  rw [← hbp] at hPL ⊢
  clear hwC hC RC q7 hq1 HB4 HZ4 hbp
  have hq1 := hbp1
  have HSR := hide (fun W (hb : Below w.heap.size w W) => HSR0.out.below hb)
  have hbw : w.heap.size ≤ bp := by omega
  have q2 := HZ5.out.cell 2
  have q3 := HZ5.out.cell 3
  have q4 := HZ5.out.cell 4
  have q5 := HZ5.out.cell 5
  have q7 := HZ5.out.cell 7
  clear HSR0
  go_cut [] from 42 to 60 (fun wx => ∃ (A6 : Option Addr) (n6 c6 : Nat) (us6 : List Value), OwS wx w4.heap.size 75 4 LogPart.cells (.slice A6 n6 c6) (st.plan.parts ++ [⟨st.plan.open_, st.plan.first, st.next, st.size⟩]) us6 [] ∧ Row wx bp 30 [.slice A6 n6 c6, .int .i64 (u : Int), .int .i64 st.next] ∧ Below bp w4 wx)
  case first =>
    have hb0 : Below w4.heap.size w4 w4.drew := below_drewN (Below.refl _ _) 1
    have hz0 : w4.heap.size ≤ w4.drew.heap.size := hb0.size
    have hPL := hide (hPL.out.below hb0 hbp4)
    clear hb0
    refine wp_region_held_drew (S := fun W => Below bp w4 W) (by kernel_rfl) (below_drewN (Below.refl _ _) 1) (fun hS => ?_)
    generalize w4.drew = x0_ at *
    refine wpAnyH_take (i := 1) (v := .pointer (some ⟨w.heap.size + 1, 2, none⟩)) rfl (by kernel_rfl) (by kernel_rfl) (by kernel_rfl) (fun _ _ _ h => h) (Or.inl ⟨by kernel_rfl, by (intro W hS; go_simp; first | done | with_reducible rfl | rfl)⟩) hS ?_
    (try simp only [Act.put, List.getElem_toArray, List.getElem_cons_zero, List.getElem_cons_succ, List.setIfInBounds_toArray, List.set_cons_zero, List.set_cons_succ])
    refine wpAnyH_take (i := 2) (v := .pointer (some ⟨w.heap.size + 1, 2, none⟩)) rfl (by kernel_rfl) (by kernel_rfl) (by kernel_rfl) (fun _ _ _ h => h) (Or.inl ⟨by kernel_rfl, by (intro W hS; go_simp; first | done | with_reducible rfl | rfl)⟩) hS ?_
    (try simp only [Act.put, List.getElem_toArray, List.getElem_cons_zero, List.getElem_cons_succ, List.setIfInBounds_toArray, List.set_cons_zero, List.set_cons_succ])
    refine wpAnyH_take (i := 3) (v := .slice Ap st.plan.parts.length cp) rfl (by kernel_rfl) (by kernel_rfl) (by kernel_rfl) (fun _ _ _ h => h) (Or.inl ⟨by kernel_rfl, by (intro W hS; have y := (kcell2 q2 hS hq1); have yl := cell_lt y; go_simp; first | done | with_reducible rfl | rfl)⟩) hS ?_
    (try simp only [Act.put, List.getElem_toArray, List.getElem_cons_zero, List.getElem_cons_succ, List.setIfInBounds_toArray, List.set_cons_zero, List.set_cons_succ])
    refine wpAnyH_take (i := 5) (v := .pointer (some ⟨w.heap.size + 1, 2, none⟩)) rfl (by kernel_rfl) (by kernel_rfl) (by kernel_rfl) (fun _ _ _ h => h) (Or.inl ⟨by kernel_rfl, by (intro W hS; go_simp; first | done | with_reducible rfl | rfl)⟩) hS ?_
    (try simp only [Act.put, List.getElem_toArray, List.getElem_cons_zero, List.getElem_cons_succ, List.setIfInBounds_toArray, List.set_cons_zero, List.set_cons_succ])
    refine wpAnyH_take (i := 6) (v := .pointer (some ⟨w.heap.size + 1, 3, none⟩)) rfl (by kernel_rfl) (by kernel_rfl) (by kernel_rfl) (fun _ _ _ h => h) (Or.inl ⟨by kernel_rfl, by (intro W hS; go_simp; first | done | with_reducible rfl | rfl)⟩) hS ?_
    (try simp only [Act.put, List.getElem_toArray, List.getElem_cons_zero, List.getElem_cons_succ, List.setIfInBounds_toArray, List.set_cons_zero, List.set_cons_succ])
    refine wpAnyH_take (i := 7) (v := .int .i64 st.plan.open_) rfl (by kernel_rfl) (by kernel_rfl) (by kernel_rfl) (fun _ _ _ h => h) (Or.inl ⟨by kernel_rfl, by (intro W hS; have y := (kcell2 q3 hS hq1); have yl := cell_lt y; go_simp; first | done | with_reducible rfl | rfl)⟩) hS ?_
    (try simp only [Act.put, List.getElem_toArray, List.getElem_cons_zero, List.getElem_cons_succ, List.setIfInBounds_toArray, List.set_cons_zero, List.set_cons_succ])
    refine wpAnyH_take (i := 8) (v := .pointer (some ⟨w.heap.size + 1, 2, none⟩)) rfl (by kernel_rfl) (by kernel_rfl) (by kernel_rfl) (fun _ _ _ h => h) (Or.inl ⟨by kernel_rfl, by (intro W hS; go_simp; first | done | with_reducible rfl | rfl)⟩) hS ?_
    (try simp only [Act.put, List.getElem_toArray, List.getElem_cons_zero, List.getElem_cons_succ, List.setIfInBounds_toArray, List.set_cons_zero, List.set_cons_succ])
    refine wpAnyH_take (i := 9) (v := .pointer (some ⟨w.heap.size + 1, 4, none⟩)) rfl (by kernel_rfl) (by kernel_rfl) (by kernel_rfl) (fun _ _ _ h => h) (Or.inl ⟨by kernel_rfl, by (intro W hS; go_simp; first | done | with_reducible rfl | rfl)⟩) hS ?_
    (try simp only [Act.put, List.getElem_toArray, List.getElem_cons_zero, List.getElem_cons_succ, List.setIfInBounds_toArray, List.set_cons_zero, List.set_cons_succ])
    refine wpAnyH_take (i := 10) (v := .int .i64 st.plan.first) rfl (by kernel_rfl) (by kernel_rfl) (by kernel_rfl) (fun _ _ _ h => h) (Or.inl ⟨by kernel_rfl, by (intro W hS; have y := (kcell2 q4 hS hq1); have yl := cell_lt y; go_simp; first | done | with_reducible rfl | rfl)⟩) hS ?_
    (try simp only [Act.put, List.getElem_toArray, List.getElem_cons_zero, List.getElem_cons_succ, List.setIfInBounds_toArray, List.set_cons_zero, List.set_cons_succ])
    refine wpAnyH_take (i := 11) (v := .pointer (some ⟨w.heap.size + 1, 7, none⟩)) rfl (by kernel_rfl) (by kernel_rfl) (by kernel_rfl) (fun _ _ _ h => h) (Or.inl ⟨by kernel_rfl, by (intro W hS; go_simp; first | done | with_reducible rfl | rfl)⟩) hS ?_
    (try simp only [Act.put, List.getElem_toArray, List.getElem_cons_zero, List.getElem_cons_succ, List.setIfInBounds_toArray, List.set_cons_zero, List.set_cons_succ])
    refine wpAnyH_take (i := 12) (v := .int .i64 st.next) rfl (by kernel_rfl) (by kernel_rfl) (by kernel_rfl) (fun _ _ _ h => h) (Or.inl ⟨by kernel_rfl, by (intro W hS; have y := (kcell2 q7 hS hq1); have yl := cell_lt y; go_simp; first | done | with_reducible rfl | rfl)⟩) hS ?_
    (try simp only [Act.put, List.getElem_toArray, List.getElem_cons_zero, List.getElem_cons_succ, List.setIfInBounds_toArray, List.set_cons_zero, List.set_cons_succ])
    refine wpAnyH_take (i := 13) (v := .pointer (some ⟨w.heap.size + 1, 5, none⟩)) rfl (by kernel_rfl) (by kernel_rfl) (by kernel_rfl) (fun _ _ _ h => h) (Or.inl ⟨by kernel_rfl, by (intro W hS; go_simp; first | done | with_reducible rfl | rfl)⟩) hS ?_
    (try simp only [Act.put, List.getElem_toArray, List.getElem_cons_zero, List.getElem_cons_succ, List.setIfInBounds_toArray, List.set_cons_zero, List.set_cons_succ])
    refine wpAnyH_take (i := 14) (v := .int .i64 st.size) rfl (by kernel_rfl) (by kernel_rfl) (by kernel_rfl) (fun _ _ _ h => h) (Or.inl ⟨by kernel_rfl, by (intro W hS; have y := (kcell2 q5 hS hq1); have yl := cell_lt y; go_simp; first | done | with_reducible rfl | rfl)⟩) hS ?_
    (try simp only [Act.put, List.getElem_toArray, List.getElem_cons_zero, List.getElem_cons_succ, List.setIfInBounds_toArray, List.set_cons_zero, List.set_cons_succ])
    refine wpAnyH_take (i := 15) (v := .agg #[.int .i64 st.plan.open_, .int .i64 st.plan.first, .int .i64 st.next, .int .i64 st.size]) rfl (by kernel_rfl) (by kernel_rfl) (by kernel_rfl) (fun _ _ _ h => h) (Or.inl ⟨by kernel_rfl, by (intro W hS; go_simp; first | done | with_reducible rfl | rfl)⟩) hS ?_
    (try simp only [Act.put, List.getElem_toArray, List.getElem_cons_zero, List.getElem_cons_succ, List.setIfInBounds_toArray, List.set_cons_zero, List.set_cons_succ])
    refine wpAnyH_ready (rs := [0, 16]) (by kernel_rfl) (by simp) ?_
    refine AllReadyH.cons rfl (fun K hK => ?_) ?_
    · go_simp
      have hE := hide (OwS.empty8 x0_ w4.heap.size (by omega) 75 4 LogPart.cells)
      have hS2 := hS.alloc (by have := hS.size; omega) (.cells #[] 75)
      have hPL := hide (hPL.out.alloc (.cells #[] 75))
      refine hK.out _ _ hS2 (fun hHeld => ?_)
      clear hK K hHeld hS
      have hS := hS2
      clear hS2
      generalize hw_x0 : x0_.alloc (.cells #[] 75) = x0 at *
      have hz_x0 : x0_.heap.size + 1 ≤ x0.heap.size := by rw [← hw_x0, World.size_alloc]; exact Nat.le_refl _
      clear hw_x0
      refine wpAnyH_ready (rs := [4, 16]) (by kernel_rfl) (by simp) ?_
      refine AllReadyH.cons rfl (fun K hK => ?_) ?_
      · have hbE : w4.heap.size ≤ x0.heap.size := by omega
        refine step_app (by rfl) _ _ 28 (by rfl) ia _ 32 Tryz.underlying28 HIa.out ha0 ha1 ha2 rfl (by decide) LogPart.cells_len (by rfl) hE.out st.plan.parts HUR.out.far (by exact New.nil _ _) (fun g _ hg => by cases hg) _ _ _ (by rfl) rfl (HSR.out _ (HB5.out.trans (hS.mono hbw))) (by simp only [List.length_nil]; omega) (by decide) hbE ?_
        intro A5 n5 c5 x0_4 hn5 hown5 hgb5
        have hA := hide hown5
        have hS2 := hS.trans (hgb5.toBelow (B := bp) (by omega) (fun g e => by have := hE.out.from e; omega))
        have hz_x0_4 : x0.heap.size ≤ x0_4.heap.size := hgb5.grown.size
        have hPL := hide (hgb5.row hPL.out (hE.out.low (by omega)))
        clear hgb5 hown5 hn5 hE
        refine hK.out _ _ hS2 (fun hHeld => ?_)
        clear hK K hHeld hS
        have hS := hS2
        clear hS2
        refine wpAnyH_ready (rs := [16]) (by kernel_rfl) (by simp) ?_
        refine AllReadyH.cons rfl (fun K hK => ?_) AllReadyH.nil
        go_simp
        have hQ := hide (SrcAt.new x0_4 [.int .i64 st.plan.open_, .int .i64 st.plan.first, .int .i64 st.next, .int .i64 st.size] 75 1 1)
        have hS2 := hS.alloc (by have := hS.size; omega) (.cells #[.int .i64 st.plan.open_, .int .i64 st.plan.first, .int .i64 st.next, .int .i64 st.size] 75)
        have hPL := hide (hPL.out.alloc (.cells #[.int .i64 st.plan.open_, .int .i64 st.plan.first, .int .i64 st.next, .int .i64 st.size] 75))
        have hA := hide (hA.out.alloc (.cells #[.int .i64 st.plan.open_, .int .i64 st.plan.first, .int .i64 st.next, .int .i64 st.size] 75))
        refine hK.out _ _ hS2 (fun hHeld => ?_)
        clear hK K hHeld hS
        have hS := hS2
        clear hS2
        generalize hw_x0_4_16 : x0_4.alloc (.cells #[.int .i64 st.plan.open_, .int .i64 st.plan.first, .int .i64 st.next, .int .i64 st.size] 75) = x0_4_16 at *
        have hz_x0_4_16 : x0_4.heap.size + 1 ≤ x0_4_16.heap.size := by rw [← hw_x0_4_16, World.size_alloc]; exact Nat.le_refl _
        clear hw_x0_4_16
        refine wpAnyH_ready (rs := [17]) (by kernel_rfl) (by simp) ?_
        refine AllReadyH.cons rfl (fun K hK => ?_) AllReadyH.nil
        have hbE : w4.heap.size ≤ x0_4_16.heap.size := by omega
        refine step_app (by rfl) _ _ 28 (by rfl) ia _ 32 Tryz.underlying28 HIa.out ha0 ha1 ha2 rfl (by decide) LogPart.cells_len (by rfl) hA.out [⟨st.plan.open_, st.plan.first, st.next, st.size⟩] (by exact HPX.out.far) (by exact New.nil _ _) (fun g _ hg => by cases hg) _ 1 1 (by rfl) rfl hQ.out (by simp only [List.nil_append]; omega) (by decide) hbE ?_
        intro A6 n6 c6 x0_4_16_17 hn6 hown6 hgb6
        have hS2 := hS.trans (hgb6.toBelow (B := bp) (by omega) (fun g e => by have := hA.out.from e; omega))
        have hz_x0_4_16_17 : x0_4_16.heap.size ≤ x0_4_16_17.heap.size := hgb6.grown.size
        have hPL := hide (hgb6.row hPL.out (hA.out.low (by omega)))
        have hA2 := hide (show OwS x0_4_16_17 w4.heap.size 75 4 LogPart.cells (.slice A6 n6 c6) (st.plan.parts ++ [⟨st.plan.open_, st.plan.first, st.next, st.size⟩]) _ [] from hown6)
        have v0 := hPL.out.cell 0
        have y0 := hPL.out.frozen 0
        have yl := hPL.out.lt
        clear hgb6 hown6 hn6 hA hQ
        refine hK.out _ _ hS2 (fun hHeld => ?_)
        clear hK K hHeld hS
        have hS := hS2
        clear hS2
        refine wpAnyH_take (i := 18) (v := .pointer (some ⟨bp, 0, none⟩)) rfl (by kernel_rfl) (by kernel_rfl) (by kernel_rfl) (fun _ _ _ h => h) (Or.inl ⟨by kernel_rfl, by (intro W hS; go_simp; first | done | with_reducible rfl | rfl)⟩) hS ?_
        (try simp only [Act.put, List.getElem_toArray, List.getElem_cons_zero, List.getElem_cons_succ, List.setIfInBounds_toArray, List.set_cons_zero, List.set_cons_succ])
        refine wpAnyH_ready (rs := [19]) (by kernel_rfl) (by simp) ?_
        refine AllReadyH.cons rfl (fun K hK => ?_) AllReadyH.nil
        go_simp
        have hS2 := hS.setCell (p := ⟨bp, 0, none⟩) (Nat.le_refl _) (.slice A6 n6 c6)
        have hA2 := hide (hA2.out.setCell (p := ⟨bp, 0, none⟩) (by simp) (hA2.out.low hbp4) (.slice A6 n6 c6))
        have hPL := hide (hPL.out.set 0 (.slice A6 n6 c6))
        clear v0 y0 yl
        refine hK.out _ _ hS2 (fun hHeld => ?_)
        clear hK K hHeld hS
        have hS := hS2
        clear hS2
        generalize (World.setCell _ _ _) = x0_4_16_17_19 at *
        refine wpAnyH_done (by kernel_rfl) ?_ _
        go_wp2_with fail
        go_meet
        exact ⟨A6, n6, c6, _, hA2.out, by simpa using hPL.out, hS⟩
      refine AllReadyH.cons rfl (fun K hK => ?_) AllReadyH.nil
      go_simp
      have hQ := hide (SrcAt.new x0 [.int .i64 st.plan.open_, .int .i64 st.plan.first, .int .i64 st.next, .int .i64 st.size] 75 1 1)
      have hS2 := hS.alloc (by have := hS.size; omega) (.cells #[.int .i64 st.plan.open_, .int .i64 st.plan.first, .int .i64 st.next, .int .i64 st.size] 75)
      have hPL := hide (hPL.out.alloc (.cells #[.int .i64 st.plan.open_, .int .i64 st.plan.first, .int .i64 st.next, .int .i64 st.size] 75))
      have hE := hide (hE.out.alloc (.cells #[.int .i64 st.plan.open_, .int .i64 st.plan.first, .int .i64 st.next, .int .i64 st.size] 75))
      refine hK.out _ _ hS2 (fun hHeld => ?_)
      clear hK K hHeld hS
      have hS := hS2
      clear hS2
      generalize hw_x0_16 : x0.alloc (.cells #[.int .i64 st.plan.open_, .int .i64 st.plan.first, .int .i64 st.next, .int .i64 st.size] 75) = x0_16 at *
      have hz_x0_16 : x0.heap.size + 1 ≤ x0_16.heap.size := by rw [← hw_x0_16, World.size_alloc]; exact Nat.le_refl _
      clear hw_x0_16
      refine wpAnyH_ready (rs := [4]) (by kernel_rfl) (by simp) ?_
      refine AllReadyH.cons rfl (fun K hK => ?_) AllReadyH.nil
      have hbE : w4.heap.size ≤ x0_16.heap.size := by omega
      refine step_app (by rfl) _ _ 28 (by rfl) ia _ 32 Tryz.underlying28 HIa.out ha0 ha1 ha2 rfl (by decide) LogPart.cells_len (by rfl) hE.out st.plan.parts HUR.out.far (by exact New.nil _ _) (fun g _ hg => by cases hg) _ _ _ (by rfl) rfl (HSR.out _ (HB5.out.trans (hS.mono hbw))) (by simp only [List.length_nil]; omega) (by decide) hbE ?_
      intro A5 n5 c5 x0_16_4 hn5 hown5 hgb5
      have hA := hide hown5
      have hS2 := hS.trans (hgb5.toBelow (B := bp) (by omega) (fun g e => by have := hE.out.from e; omega))
      have hz_x0_16_4 : x0_16.heap.size ≤ x0_16_4.heap.size := hgb5.grown.size
      have hPL := hide (hgb5.row hPL.out (hE.out.low (by omega)))
      have hQ := hide (hQ.out.gb hgb5 (fun e => by injection e with e; dsimp only at e; omega))
      clear hgb5 hown5 hn5 hE
      refine hK.out _ _ hS2 (fun hHeld => ?_)
      clear hK K hHeld hS
      have hS := hS2
      clear hS2
      refine wpAnyH_ready (rs := [17]) (by kernel_rfl) (by simp) ?_
      refine AllReadyH.cons rfl (fun K hK => ?_) AllReadyH.nil
      have hbE : w4.heap.size ≤ x0_16_4.heap.size := by omega
      refine step_app (by rfl) _ _ 28 (by rfl) ia _ 32 Tryz.underlying28 HIa.out ha0 ha1 ha2 rfl (by decide) LogPart.cells_len (by rfl) hA.out [⟨st.plan.open_, st.plan.first, st.next, st.size⟩] (by exact HPX.out.far) (by exact New.nil _ _) (fun g _ hg => by cases hg) _ 1 1 (by rfl) rfl hQ.out (by simp only [List.nil_append]; omega) (by decide) hbE ?_
      intro A6 n6 c6 x0_16_4_17 hn6 hown6 hgb6
      have hS2 := hS.trans (hgb6.toBelow (B := bp) (by omega) (fun g e => by have := hA.out.from e; omega))
      have hz_x0_16_4_17 : x0_16_4.heap.size ≤ x0_16_4_17.heap.size := hgb6.grown.size
      have hPL := hide (hgb6.row hPL.out (hA.out.low (by omega)))
      have hA2 := hide (show OwS x0_16_4_17 w4.heap.size 75 4 LogPart.cells (.slice A6 n6 c6) (st.plan.parts ++ [⟨st.plan.open_, st.plan.first, st.next, st.size⟩]) _ [] from hown6)
      have v0 := hPL.out.cell 0
      have y0 := hPL.out.frozen 0
      have yl := hPL.out.lt
      clear hgb6 hown6 hn6 hA hQ
      refine hK.out _ _ hS2 (fun hHeld => ?_)
      clear hK K hHeld hS
      have hS := hS2
      clear hS2
      refine wpAnyH_take (i := 18) (v := .pointer (some ⟨bp, 0, none⟩)) rfl (by kernel_rfl) (by kernel_rfl) (by kernel_rfl) (fun _ _ _ h => h) (Or.inl ⟨by kernel_rfl, by (intro W hS; go_simp; first | done | with_reducible rfl | rfl)⟩) hS ?_
      (try simp only [Act.put, List.getElem_toArray, List.getElem_cons_zero, List.getElem_cons_succ, List.setIfInBounds_toArray, List.set_cons_zero, List.set_cons_succ])
      refine wpAnyH_ready (rs := [19]) (by kernel_rfl) (by simp) ?_
      refine AllReadyH.cons rfl (fun K hK => ?_) AllReadyH.nil
      go_simp
      have hS2 := hS.setCell (p := ⟨bp, 0, none⟩) (Nat.le_refl _) (.slice A6 n6 c6)
      have hA2 := hide (hA2.out.setCell (p := ⟨bp, 0, none⟩) (by simp) (hA2.out.low hbp4) (.slice A6 n6 c6))
      have hPL := hide (hPL.out.set 0 (.slice A6 n6 c6))
      clear v0 y0 yl
      refine hK.out _ _ hS2 (fun hHeld => ?_)
      clear hK K hHeld hS
      have hS := hS2
      clear hS2
      generalize (World.setCell _ _ _) = x0_16_4_17_19 at *
      refine wpAnyH_done (by kernel_rfl) ?_ _
      go_wp2_with fail
      go_meet
      exact ⟨A6, n6, c6, _, hA2.out, by simpa using hPL.out, hS⟩
    refine AllReadyH.cons rfl (fun K hK => ?_) AllReadyH.nil
    go_simp
    have hQ := hide (SrcAt.new x0_ [.int .i64 st.plan.open_, .int .i64 st.plan.first, .int .i64 st.next, .int .i64 st.size] 75 1 1)
    have hS2 := hS.alloc (by have := hS.size; omega) (.cells #[.int .i64 st.plan.open_, .int .i64 st.plan.first, .int .i64 st.next, .int .i64 st.size] 75)
    have hPL := hide (hPL.out.alloc (.cells #[.int .i64 st.plan.open_, .int .i64 st.plan.first, .int .i64 st.next, .int .i64 st.size] 75))
    refine hK.out _ _ hS2 (fun hHeld => ?_)
    clear hK K hHeld hS
    have hS := hS2
    clear hS2
    generalize hw_x16 : x0_.alloc (.cells #[.int .i64 st.plan.open_, .int .i64 st.plan.first, .int .i64 st.next, .int .i64 st.size] 75) = x16 at *
    have hz_x16 : x0_.heap.size + 1 ≤ x16.heap.size := by rw [← hw_x16, World.size_alloc]; exact Nat.le_refl _
    clear hw_x16
    refine wpAnyH_ready (rs := [0]) (by kernel_rfl) (by simp) ?_
    refine AllReadyH.cons rfl (fun K hK => ?_) AllReadyH.nil
    go_simp
    have hE := hide (OwS.empty8 x16 w4.heap.size (by omega) 75 4 LogPart.cells)
    have hS2 := hS.alloc (by have := hS.size; omega) (.cells #[] 75)
    have hPL := hide (hPL.out.alloc (.cells #[] 75))
    have hQ := hide (hQ.out.below ((Below.refl x16.heap.size x16).alloc (Nat.le_refl _) (.cells #[] 75)))
    refine hK.out _ _ hS2 (fun hHeld => ?_)
    clear hK K hHeld hS
    have hS := hS2
    clear hS2
    generalize hw_x16_0 : x16.alloc (.cells #[] 75) = x16_0 at *
    have hz_x16_0 : x16.heap.size + 1 ≤ x16_0.heap.size := by rw [← hw_x16_0, World.size_alloc]; exact Nat.le_refl _
    clear hw_x16_0
    refine wpAnyH_ready (rs := [4]) (by kernel_rfl) (by simp) ?_
    refine AllReadyH.cons rfl (fun K hK => ?_) AllReadyH.nil
    have hbE : w4.heap.size ≤ x16_0.heap.size := by omega
    refine step_app (by rfl) _ _ 28 (by rfl) ia _ 32 Tryz.underlying28 HIa.out ha0 ha1 ha2 rfl (by decide) LogPart.cells_len (by rfl) hE.out st.plan.parts HUR.out.far (by exact New.nil _ _) (fun g _ hg => by cases hg) _ _ _ (by rfl) rfl (HSR.out _ (HB5.out.trans (hS.mono hbw))) (by simp only [List.length_nil]; omega) (by decide) hbE ?_
    intro A5 n5 c5 x16_0_4 hn5 hown5 hgb5
    have hA := hide hown5
    have hS2 := hS.trans (hgb5.toBelow (B := bp) (by omega) (fun g e => by have := hE.out.from e; omega))
    have hz_x16_0_4 : x16_0.heap.size ≤ x16_0_4.heap.size := hgb5.grown.size
    have hPL := hide (hgb5.row hPL.out (hE.out.low (by omega)))
    have hQ := hide (hQ.out.gb hgb5 (fun e => by injection e with e; dsimp only at e; omega))
    clear hgb5 hown5 hn5 hE
    refine hK.out _ _ hS2 (fun hHeld => ?_)
    clear hK K hHeld hS
    have hS := hS2
    clear hS2
    refine wpAnyH_ready (rs := [17]) (by kernel_rfl) (by simp) ?_
    refine AllReadyH.cons rfl (fun K hK => ?_) AllReadyH.nil
    have hbE : w4.heap.size ≤ x16_0_4.heap.size := by omega
    refine step_app (by rfl) _ _ 28 (by rfl) ia _ 32 Tryz.underlying28 HIa.out ha0 ha1 ha2 rfl (by decide) LogPart.cells_len (by rfl) hA.out [⟨st.plan.open_, st.plan.first, st.next, st.size⟩] (by exact HPX.out.far) (by exact New.nil _ _) (fun g _ hg => by cases hg) _ 1 1 (by rfl) rfl hQ.out (by simp only [List.nil_append]; omega) (by decide) hbE ?_
    intro A6 n6 c6 x16_0_4_17 hn6 hown6 hgb6
    have hS2 := hS.trans (hgb6.toBelow (B := bp) (by omega) (fun g e => by have := hA.out.from e; omega))
    have hz_x16_0_4_17 : x16_0_4.heap.size ≤ x16_0_4_17.heap.size := hgb6.grown.size
    have hPL := hide (hgb6.row hPL.out (hA.out.low (by omega)))
    have hA2 := hide (show OwS x16_0_4_17 w4.heap.size 75 4 LogPart.cells (.slice A6 n6 c6) (st.plan.parts ++ [⟨st.plan.open_, st.plan.first, st.next, st.size⟩]) _ [] from hown6)
    have v0 := hPL.out.cell 0
    have y0 := hPL.out.frozen 0
    have yl := hPL.out.lt
    clear hgb6 hown6 hn6 hA hQ
    refine hK.out _ _ hS2 (fun hHeld => ?_)
    clear hK K hHeld hS
    have hS := hS2
    clear hS2
    refine wpAnyH_take (i := 18) (v := .pointer (some ⟨bp, 0, none⟩)) rfl (by kernel_rfl) (by kernel_rfl) (by kernel_rfl) (fun _ _ _ h => h) (Or.inl ⟨by kernel_rfl, by (intro W hS; go_simp; first | done | with_reducible rfl | rfl)⟩) hS ?_
    (try simp only [Act.put, List.getElem_toArray, List.getElem_cons_zero, List.getElem_cons_succ, List.setIfInBounds_toArray, List.set_cons_zero, List.set_cons_succ])
    refine wpAnyH_ready (rs := [19]) (by kernel_rfl) (by simp) ?_
    refine AllReadyH.cons rfl (fun K hK => ?_) AllReadyH.nil
    go_simp
    have hS2 := hS.setCell (p := ⟨bp, 0, none⟩) (Nat.le_refl _) (.slice A6 n6 c6)
    have hA2 := hide (hA2.out.setCell (p := ⟨bp, 0, none⟩) (by simp) (hA2.out.low hbp4) (.slice A6 n6 c6))
    have hPL := hide (hPL.out.set 0 (.slice A6 n6 c6))
    clear v0 y0 yl
    refine hK.out _ _ hS2 (fun hHeld => ?_)
    clear hK K hHeld hS
    have hS := hS2
    clear hS2
    generalize (World.setCell _ _ _) = x16_0_4_17_19 at *
    refine wpAnyH_done (by kernel_rfl) ?_ _
    go_wp2_with fail
    go_meet
    exact ⟨A6, n6, c6, _, hA2.out, by simpa using hPL.out, hS⟩
  obtain ⟨A6, n6, c6, us6, hown6, hrow6, hb6⟩ := hcut
  obtain ⟨A7, c7, e7⟩ := hown6.form
  injection e7 with e7 e8 e9
  subst e7 e8 e9
  obtain ⟨fq, ho, hn⟩ := hown6.toOw
  have HB6 := hide (HB5.out.trans (hb6.mono hbw))
  have HZ6 := hide (HZ5.out.below hb6 hbp1)
  have HPO := hide (show OwC wc (closed (u : Int) st).cells [.slice A6 (st.plan.parts ++ ([⟨st.plan.open_, st.plan.first, st.next, st.size⟩] : List LogPart)).length c6, .int .i64 (u : Int), .int .i64 st.next] fq from OwC.mLogPlan (x := closed (u : Int) st) ho (WalkArith.wf_i64 (by show (_ : Int) ≤ (u : Int) ∧ (u : Int) ≤ _; omega)) wf)
  have HLW := hide (fun W (hb : Below wc.heap.size wc W) => specLogPlanWrite_any (closed (u : Int) st) _ fq W (HPO.out.below hb hn.lt) (hn.lt.mono hb.size) (by rw [LogPlan.bulk_eq]; unfold LogPart.bulkL closed; simp only [List.length_append, List.length_singleton]; omega))
  rw [HWR.out] at HLW
  have r0 := hrow6.cell 0
  have r1 := hrow6.cell 1
  have r2 := hrow6.cell 2
  have rl := hrow6.lt
  have z1 := HZ6.out.cell 1
  have zl := HZ6.out.lt
  obtain ⟨n6, hn6⟩ : ∃ n, (st.plan.parts ++ ([⟨st.plan.open_, st.plan.first, st.next, st.size⟩] : List LogPart)).length = n := ⟨_, rfl⟩
  rw [hn6] at r0 HLW
  have hcn : ¬ (9223372036854775807 < 1 + (dec st.num).size) := by omega
  have HSM := hide (closing_small (u : Int) st (by omega) hnum htx)
  clear hown6 hrow6 ho hn hn6 HB5 HZ5 q2 q3 q4 q5 q7 hq1 hbp1 hPL HSR
  obtain ⟨txt, hxt⟩ : ∃ x, (closed (u : Int) st).text = x := ⟨_, rfl⟩
  rw [hxt] at HLW
  have HXT := hide hxt
  clear hxt
  go_wp2_with fail
  go_region_held3 (fun w' => w'.cell? ⟨bp, 0, none⟩ = some (.slice A6 n6 c6) ∧ w'.cell? ⟨bp, 1, none⟩ = some (.int .i64 (u : Int)) ∧ w'.cell? ⟨bp, 2, none⟩ = some (.int .i64 st.next) ∧ w'.cell? ⟨w.heap.size + 1, 1, none⟩ = some (.int .i64 st.num))
    (first | exact ⟨kcell2 r0 hbz rl, kcell2 r1 hbz rl, kcell2 r2 hbz rl, kcell2 z1 hbz zl⟩ | go_keep)
    (first
      | (go_at_call 34; refine (HDN.out _).mono ?_; rintro e w6 ⟨rfl, hb7⟩; have hbz : Below wc.heap.size wc w6 := hby.trans (hb7.mono hby.size))
      | (go_at_call 102; refine (HLW.out _ (below_drewN (Below.refl _ wc) _)).mono ?_; rintro e w5 ⟨rfl, hb5⟩; have hbz : Below wc.heap.size wc w5 := (below_drewN (Below.refl _ wc) _).trans hb5; have hby := hbz))
  all_goals
    have HBZ := hide (HB6.out.trans (hbz.mono HB6.out.size))
    clear hbz hby hb5 hb7 r0 r1 r2 rl z1 zl HLW HDN
    go_wp2
    go_ret2
    refine wr2_yes (l := closing (u : Int) st) HY.out (writes_lit (closing (u : Int) st) ?_ HSM.out ⟨by show (0 : Nat) < 7; omega, by show (7 : Nat) ≤ 1000; omega⟩) (new_one (Row.new _ _ _) HBZ.out.size) (HBZ.out.alloc HBZ.out.size _)
    rw [closing_row (u : Int) st, HXT.out]
    exact Row.new _ _ _
end Go.Proofs.YtddjgbhkfdpffaaGreatDoor
set_option linter.unusedVariables false
set_option linter.unusedSimpArgs false
namespace Go.Proofs.YtddjgbhkfdpffaaGreatDoor
open Go.ChangeShapes Go.WideShapes Go.ChangeAt Go.RowKit

theorem info_write : (Tryz.prog.info? 98).map (fun i => (i.zero, i.size, i.bytes)) = some (some (.agg #[.int .i64 0, .string .empty, .string .empty]), 3, 40) := by kernel_rfl
theorem wr_src (x : DiskWrite) (hk : (Lit.int .i64 x.kind).wf = true) (hn : x.name.size ≤ maxLen) (hd : x.data.size ≤ maxLen) (W : World) : OwC W ([x].flatMap DiskWrite.cells) (wrRow x) [] := by
  simpa using write_ow x hk hn hd W
/-- a slice that grows stays apart from what is read beside it -/
theorem apart_gb {w w' : World} {v v' : Value} {fq : List Nat} (hg : GB w w' v v') (hn : ∀ g, v.ownBlock = some g → g ∉ fq) (hl : Lt fq w.heap.size) : ∀ g, v'.ownBlock = some g → g ∉ fq := fun g e => by
  rcases gb_new hg e with h | h
  · exact hn g h
  · exact hl.not_mem h
theorem Ow.gb {w w' : World} {d : D} {y v v' : Value} {fq : List Nat} (h : Ow w d y fq) (hg : GB w w' v v') (hn : ∀ g, v.ownBlock = some g → g ∉ fq) (hl : Lt fq w.heap.size) : Ow w' d y fq :=
  Ow.frame d (fun g hm => hg.grown.block g (hl g hm) (fun e => hn g e.symm hm)) h
theorem map_take_succ {α β : Type} (f : α → β) (l : List α) (j : Nat) (h : j < l.length) : (l.take (j + 1)).map f = (l.take j).map f ++ [f l[j]] := by
  rw [List.take_succ_eq_append_getElem h, List.map_append]
  rfl
theorem firstPlan_row (t : Int) : (wOf 1 (segName t) :: planWrites t (firstPlan t)).flatMap wrRow = [.int .i64 1, .string (⟨#[115]⟩ ++ dec t), .string ⟨#[]⟩, .int .i64 1, .string (⟨#[109]⟩ ++ dec t), .string ⟨#[]⟩, .int .i64 2, .string (⟨#[109]⟩ ++ dec t), .string (firstPlan t).text, .int .i64 3, .string (⟨#[109]⟩ ++ dec t), .string ⟨#[]⟩, .int .i64 5, .string ⟨#[]⟩, .string ⟨#[]⟩] := rfl
theorem first_small (t : Int) (ht : 0 ≤ t ∧ t ≤ 9999999) (hx : (firstPlan t).text.size ≤ 5000) : ∀ x ∈ wOf 1 (segName t) :: planWrites t (firstPlan t), (Lit.int .i64 x.kind).wf = true ∧ x.name.size ≤ maxLen ∧ x.data.size ≤ maxLen := fun x hx' => by
  have h1 := names_size t ht
  have he : ByteArray.empty.size ≤ maxLen := Nat.zero_le _
  have hm : (30 : Nat) ≤ maxLen ∧ 5000 ≤ maxLen := by unfold maxLen; decide
  unfold planWrites wOf at hx'
  simp only [List.mem_cons, List.not_mem_nil, or_false] at hx'
  rcases hx' with rfl | rfl | rfl | rfl | rfl
  · exact ⟨(show (Lit.int .i64 1).wf = true by decide), Nat.le_trans h1.1 hm.1, he⟩
  · exact ⟨(show (Lit.int .i64 1).wf = true by decide), Nat.le_trans h1.2 hm.1, he⟩
  · exact ⟨(show (Lit.int .i64 2).wf = true by decide), Nat.le_trans h1.2 hm.1, Nat.le_trans hx hm.2⟩
  · exact ⟨(show (Lit.int .i64 3).wf = true by decide), Nat.le_trans h1.2 hm.1, he⟩
  · exact ⟨(show (Lit.int .i64 5).wf = true by decide), he, he⟩
set_option maxRecDepth 100000 in
set_option maxHeartbeats 4000000 in
theorem l44Birth_any (d : Disk) (us0 : List Value) (fp : List Nat) (w : World) (h : OwC w d.cells us0 fp) (hf : Lt fp w.heap.size) (hbk : d.bulk ≤ 1048576) (hnm : ∀ i (hi : i < d.files.length), d.files[i].name.size ≤ 1048576) (hfl0 : d.files.length ≤ 1048576) :
    Calls Tryz.prog 54 #[.agg us0.toArray] w (WrRet2 w d.birth 4) := by
  have HOC := hide h
  obtain ⟨A1, c1, A2, c2, A3, c3, f1, f2, f3, rfl, o1, o2, o3, rfl⟩ := h.oDisk
  have hml := o1.nlen
  unfold maxLen at hml
  have HTOP := hide (fun (W : World) (hb : Below w.heap.size w W) => l44Top_any d _ _ W (HOC.out.below hb hf) (hf.up hb) hnm)
  have HNM := hide (fun (W : World) (hb : Below w.heap.size w W) => specDiskNames_any d _ _ W (HOC.out.below hb hf) (hf.up hb) hbk)
  have hfl : d.fileList.length = d.files.length := by unfold Disk.fileList; rw [List.length_map]
  have HYES := hide (d.birth_yes)
  have HNO := hide (d.birth_no)
  rw [hfl] at HYES HNO
  have ht9 := topOf_bd d.fileList
  have HFP := hide (firstPlan_ok (topOf d.fileList))
  have hsl := d.shown_len
  obtain ⟨ia, hia, ha0, ha1, ha2⟩ := info_parts8 info_write
  have HIa := hide hia
  clear h o1 o2 o3 hia hfl
  generalize topOf d.fileList = t at *
  go_enter Tryz.func54, Tryz.ntmps54
  go_upto_region 1 with fail
  generalize hwA : w.alloc (.cells #[.slice A1 d.files.length c1, .slice A2 d.names.length c2, .slice A3 d.moves.length c3] 38) = wA
  have hA : Below w.heap.size w wA := by rw [← hwA]; exact (Below.refl _ _).alloc (Nat.le_refl _) _
  have HRD := hide (show Row wA w.heap.size 38 [.slice A1 d.files.length c1, .slice A2 d.names.length c2, .slice A3 d.moves.length c3] from by rw [← hwA]; exact Row.new w _ _)
  have HB1 := hide hA
  clear hwA hA
  have d0 := HRD.out.cell 0
  have d1 := HRD.out.cell 1
  have d2 := HRD.out.cell 2
  have ld := HRD.out.lt
  go_wp2_with fail
  refine (HTOP.out wA HB1.out).mono ?_
  rintro e w2 ⟨rfl, hb2⟩
  have HB2 := hide (HB1.out.trans (hb2.mono HB1.out.size))
  have HR2 := hide (HRD.out.below hb2 ld)
  clear hb2 d0 d1 d2 ld HTOP HRD HB1
  have d0 := HR2.out.cell 0
  have ld := HR2.out.lt
  have hwf : IntKind.i64.wrap ((d.files.length : Int) + 2) = (d.files.length : Int) + 2 := wrapI _ (by omega) (by omega)
  by_cases ht : t < 999999
  rotate_left
  · have hti : (999999 : Int) ≤ (t : Int) := by omega
    have HN := hide (HNO.out (fun h => ht h.1))
    clear HYES HNO HFP HNM
    go_wp2
    go_ret2
    exact wr2_no HN.out (Ow.lit0 _ _ _ _) (New.nil _ _) (HB2.out.alloc HB2.out.size _)
  have hti : ¬ ((999999 : Int) ≤ (t : Int)) := by omega
  by_cases hf62 : d.files.length ≤ 62
  rotate_left
  · have hfi : (64 : Int) < (d.files.length : Int) + 2 := by omega
    have HN := hide (HNO.out (fun h => hf62 h.2))
    clear HYES HNO HFP HNM
    go_upto_region 2 with fail
    iterate 22 go_step
    go_wp2
    go_ret2
    exact wr2_no HN.out (Ow.lit0 _ _ _ _) (New.nil _ _) (HB2.out.alloc HB2.out.size _)
  have hfi : ¬ ((64 : Int) < (d.files.length : Int) + 2) := by omega
  have HY := hide (HYES.out ⟨ht, hf62⟩)
  have hokp := HFP.out ht
  have htx := text_size _ hokp
  have HWR := hide (write_ok hokp)
  clear HYES HNO HFP hokp
  obtain ⟨u, hu⟩ : ∃ u, u = t + 1 := ⟨_, rfl⟩
  have huw : IntKind.i64.wrap ((t : Int) + 1) = (u : Int) := by rw [wrapI _ (by omega) (by omega)]; omega
  have hu9 : u ≤ 1000000 := by omega
  rw [← hu] at HY htx HWR
  clear hu
  have hdz := dec_size (u : Int) (by omega) (by omega)
  have HDU := hide (fun W => specDecN_any u W (by omega))
  have e1 : decide ((999999 : Int) ≤ (t : Int)) = false := decide_eq_false hti
  have e3 : decide ((64 : Int) < (d.files.length : Int) + 2) = false := decide_eq_false hfi
  go_upto_region 2 with fail
  iterate 22 go_step
  try simp only [e1, e3, Bool.or_false]
  clear e1 e3
  go_upto_region 5 with fail
  generalize hwB : w2.alloc (.cells #[] 98) = wB
  have hB : Below w2.heap.size w2 wB := by rw [← hwB]; exact (Below.refl _ _).alloc (Nat.le_refl _) _
  have HE := hide (show OwS wB w2.heap.size 98 3 DiskWrite.cells (.slice (some ⟨w2.heap.size, 0, none⟩) 0 0) [] [] [] from by rw [← hwB]; exact OwS.empty8 w2 w2.heap.size (Nat.le_refl _) 98 3 DiskWrite.cells)
  have HB3 := hide (HB2.out.trans (hB.mono HB2.out.size))
  have HR3 := hide (HR2.out.below hB HR2.out.lt)
  have hs3 : w2.heap.size + 1 ≤ wB.heap.size := by rw [← hwB, World.size_alloc]; exact Nat.le_refl _
  clear hwB hB d0 ld HR2 hti hfi hwf
  have d0 := HR3.out.cell 0
  have d1 := HR3.out.cell 1
  have d2 := HR3.out.cell 2
  have ld := HR3.out.lt
  go_wp2_with fail
  refine (HNM.out wB HB3.out).mono ?_
  rintro e w4 ⟨v, fq, rfl, hq, hqn, hb4⟩
  obtain ⟨Aq, cq, rfl, _, hqm⟩ := hq.slice
  unfold maxLen at hqm
  have HQ := hide hq
  have HQL := hide hqn.lt
  have HQO := hide (fun (g : Nat) (e : (Value.slice (some ⟨w2.heap.size, 0, none⟩) 0 0).ownBlock = some g) => show g ∉ fq from by
    injection e with e
    subst e
    exact hqn.out hs3)
  have HE4 := hide (HE.out.below (C := 0) hb4)
  have HB4 := hide (HB3.out.trans (hb4.mono HB3.out.size))
  have hs4 : w2.heap.size ≤ w4.heap.size := by have := hb4.size; omega
  have hws : w.heap.size ≤ w2.heap.size := HB2.out.size
  clear hb4 hq hqn d0 d1 d2 ld HNM HE HB3 HR3 hs3
  go_wp2
  go_loopw [5, 7] (fun o i wr => ∃ (j : Nat) (A : Option Addr) (n c : Nat) (us : List Value), o = .slice A n c ∧ i = .int .i64 (j : Int) ∧ j ≤ d.shown.length ∧ OwS wr w2.heap.size 98 3 DiskWrite.cells (.slice A n c) ((d.shown.take j).map (wOf 4)) us [] ∧ Ow wr (.s 1 d.shown.length (d.shown.flatMap strC)) (.slice Aq d.shown.length cq) fq ∧ Lt fq wr.heap.size ∧ (∀ g, (Value.slice A n c).ownBlock = some g → g ∉ fq) ∧ Below w.heap.size w wr ∧ w2.heap.size ≤ wr.heap.size) (fun _ i _ => d.shown.length - (intOf i).toNat)
  case atStart => exact ⟨0, _, _, _, _, rfl, rfl, Nat.zero_le _, HE4.out, HQ.out, HQL.out, HQO.out, HB4.out, hs4⟩
  case round =>
    clear HE4 HQ HQL HQO HB4 hs4
    obtain ⟨j, A, n, c, us, rfl, rfl, hj, how, hoq, hlq, hno, hbw, hsw⟩ := hrel
    have HOW := hide how
    have HOQ := hide hoq
    have HNO := hide hno
    have HB := hide hbw
    clear how hoq hno hbw
    by_cases hlt : j < d.shown.length
    · obtain ⟨g, off, rfl, hgm, hcl, hsz⟩ := strs_at HOQ.out hlt
      have hgw := hlq _ hgm
      have hji : (j : Int) < (d.shown.length : Int) := by omega
      have HMS := hide (map_take_succ (wOf 4) d.shown j hlt)
      have hx8 := Disk.shown_size (d := d) (List.getElem_mem hlt)
      generalize d.shown[j] = x at *
      have HDS := hide (fun W => wr_src (wOf 4 x) (show (Lit.int .i64 4).wf = true by decide) (show x.size ≤ maxLen by unfold maxLen; omega) (Nat.zero_le _) W)
      have HAL := hide (show Below wr.heap.size wr (wr.alloc (.cells #[.int .i64 4, .string x, .string ⟨#[]⟩] 98)) from (Below.refl _ _).alloc (Nat.le_refl _) _)
      have HOA := hide (HOW.out.alloc (.cells #[.int .i64 4, .string x, .string ⟨#[]⟩] 98))
      have hszB : w2.heap.size ≤ (wr.alloc (.cells #[.int .i64 4, .string x, .string ⟨#[]⟩] 98)).heap.size := by rw [World.size_alloc]; omega
      clear hsz
      go_wp2_with (first | (at_builtin; refine wpl_app rfl _ _ 49 rfl ia _ 40 Tryz.underlying49 HIa.out ha0 ha1 ha2 rfl (by decide) DiskWrite.cells_len rfl HOA.out [wOf 4 x] (HDS.out _) (by exact New.nil _ _) (fun g _ hg => by cases hg) _ 1 1 rfl rfl (SrcAt.new wr _ _ _ _) (by first | omega | (simp only [List.length_map, List.length_take]; omega)) (by decide) hszB ?_; intro A5 n5 c5 w5 hn5 hown5 hgb5; have HG5 := hide hgb5; have HN5 := hide hown5; clear hgb5 hown5 hn5))
      go_roundw
      case rel =>
        have hgs := HG5.out.grown.size
        rw [World.size_alloc] at hgs
        exact ⟨j + 1, A5, n5, c5, _, rfl, by go_num, by omega, by rw [HMS.out]; exact HN5.out, (HOQ.out.below HAL.out hlq).gb HG5.out HNO.out (hlq.alloc _), hlq.mono (by omega), apart_gb HG5.out HNO.out (hlq.alloc _), HB.out.trans ((HAL.out.mono HB.out.size).trans (HG5.out.toBelow (by rw [World.size_alloc]; have := HB.out.size; omega) (fun g e => Nat.le_trans hws (HOA.out.from e)))), by omega⟩
      case measure => simp [intOf]; omega
    · obtain rfl : j = d.shown.length := by omega
      have HOW2 := hide (show OwS wr w2.heap.size 98 3 DiskWrite.cells (.slice A n c) (d.shown.map (wOf 4)) us [] from by have h := HOW.out; rw [List.take_length] at h; exact h)
      have hlm : (d.shown.map (wOf 4)).length = d.shown.length := List.length_map _
      clear HOW HOQ hlq HNO hlt
      go_wp2_with fail
      refine (HDU.out wr).mono ?_
      rintro e w5 ⟨rfl, hb5⟩
      have HB5 := hide (HB.out.trans (hb5.mono HB.out.size))
      have HO5 := hide (HOW2.out.below (C := 0) hb5)
      have hs5 := Nat.le_trans hsw hb5.size
      clear hb5 HB HOW2 hsw
      go_wp2_with fail
      refine (HDU.out w5).mono ?_
      rintro e w6 ⟨rfl, hb6⟩
      have HB6 := hide (HB5.out.trans (hb6.mono HB5.out.size))
      have HO6 := hide (HO5.out.below (C := 0) hb6)
      have hs6 := Nat.le_trans hs5 hb6.size
      have HLW := hide (specLogPlanWrite_any (firstPlan (u : Int)) [.slice none 0 0, .int .i64 (u : Int), .int .i64 1] [] w6 (OwC.mLogPlan (x := firstPlan (u : Int)) (Ow.nil_ _ _ _) (WalkArith.wf_i64 (by show (_ : Int) ≤ (u : Int) ∧ (u : Int) ≤ _; omega)) (show (Lit.int .i64 1).wf = true by decide)) (fun g hg => by cases hg) (by rw [LogPlan.bulk_eq]; unfold LogPart.bulkL firstPlan; simp))
      rw [HWR.out] at HLW
      have HFS := hide (first_small (u : Int) (by omega) htx)
      have HRW := hide (firstPlan_row (u : Int))
      obtain ⟨txt, hxt⟩ : ∃ x, (firstPlan (u : Int)).text = x := ⟨_, rfl⟩
      rw [hxt] at HLW HRW
      clear hb6 HB5 HO5 hs5 hxt HDU
      go_wp2_with fail
      refine HLW.out.mono ?_
      rintro e w7 ⟨rfl, hb7⟩
      have HB7 := hide (HB6.out.trans (hb7.mono HB6.out.size))
      have HO7 := hide (HO6.out.below (C := 0) hb7)
      have hs7 := Nat.le_trans hs6 hb7.size
      obtain ⟨L5, hL5⟩ : ∃ l, wOf 1 (segName (u : Int)) :: planWrites (u : Int) (firstPlan (u : Int)) = l := ⟨_, rfl⟩
      have h5 : L5.length = 5 := by rw [← hL5]; rfl
      rw [hL5] at HFS HRW HY
      have HDS := hide (fun W => writes_ow W L5 HFS.out)
      clear hb7 HB6 HO6 hs6 HLW hL5
      have HSA := hide (fun (h : ∀ cs : List Value, L5.flatMap wrRow = cs → SrcAt (w7.alloc (.cells cs.toArray 98)) cs (some ⟨w7.heap.size, 0, none⟩) 5 5) => h)
      have HS1 := hide (show ∀ cs : List Value, L5.flatMap wrRow = cs → SrcAt (w7.alloc (.cells cs.toArray 98)) (L5.flatMap wrRow) (some ⟨w7.heap.size, 0, none⟩) 5 5 from fun cs e => by rw [e]; exact SrcAt.new w7 cs 98 5 5)
      have HOB := hide (fun o => HO7.out.alloc o)
      have hszB : ∀ o, w2.heap.size ≤ (w7.alloc o).heap.size := fun o => by rw [World.size_alloc]; omega
      have HBB := hide (fun o => HB7.out.alloc HB7.out.size o)
      clear HSA
      go_wp2_with (first | (at_builtin; refine wpl_app rfl _ _ 49 rfl ia _ 40 Tryz.underlying49 HIa.out ha0 ha1 ha2 rfl (by decide) DiskWrite.cells_len rfl (HOB.out _) L5 (HDS.out _) (by exact New.nil _ _) (fun g _ hg => by cases hg) _ 5 5 rfl (by rw [h5]) (HS1.out _ HRW.out) (by rw [hlm]; omega) (by decide) (hszB _) ?_; intro A5 n5 c5 w8 hn5 hown5 hgb5; have HB8 := hide ((HBB.out _).trans (hgb5.toBelow (by have := (HBB.out (.cells #[] 98)).size; rw [World.size_alloc] at this ⊢; exact this) (fun g e => Nat.le_trans hws (HO7.out.from e)))); have HN5 := hide hown5; clear hgb5 hown5 hn5))
      go_ret2
      obtain ⟨fr, ho, hn⟩ := HN5.out.toOw
      exact wr2_yes HY.out ho (hn.mono hws) HB8.out
end Go.Proofs.YtddjgbhkfdpffaaGreatDoor
set_option linter.unusedVariables false
set_option linter.unusedSimpArgs false
namespace Go.Proofs.YtddjgbhkfdpffaaGreatDoor
open Go.ChangeShapes Go.WideShapes Go.ChangeAt Go.RowKit

theorem stays_iff (st : LogState) (x : ByteArray) : x ∈ stays st ↔ x = planFile st.num ∨ x = segName st.plan.open_ ∨ ∃ i, ∃ h : i < st.plan.parts.length, x = segName st.plan.parts[i].num := by
  unfold stays
  rw [List.mem_cons, List.mem_cons, List.mem_map]
  constructor
  · rintro (h | h | ⟨p, hp, rfl⟩)
    · exact .inl h
    · exact .inr (.inl h)
    · obtain ⟨i, hi, rfl⟩ := List.getElem_of_mem hp
      exact .inr (.inr ⟨i, hi, rfl⟩)
  · rintro (h | h | ⟨i, hi, rfl⟩)
    · exact .inl h
    · exact .inr (.inl h)
    · exact .inr (.inr ⟨_, List.getElem_mem hi, rfl⟩)
set_option maxRecDepth 100000 in
set_option maxHeartbeats 4000000 in
theorem l44Ours_any (st : LogState) (us1 : List Value) (fp1 : List Nat) (x : ByteArray) (w : World) (hs : OwC w st.cells us1 fp1) (hf1 : Lt fp1 w.heap.size) (hpl : st.plan.parts.length ≤ 40) (hnum : 0 ≤ st.num ∧ st.num ≤ 9999999) (hop : 0 ≤ st.plan.open_ ∧ st.plan.open_ ≤ 9999999) (hpn : ∀ i (h : i < st.plan.parts.length), 0 ≤ st.plan.parts[i].num ∧ st.plan.parts[i].num ≤ 9999999) :
    Calls Tryz.prog 103 #[.agg us1.toArray, .string x] w fun e w' => e = .returned (.bool (tb (x ∈ stays st))) ∧ Below w.heap.size w w' := by
  obtain ⟨Ap, cp, Ar, cr, g1, g2, rfl, wa, wb, oA, wc, wd, we, wf, oB, rfl⟩ := hs.oLogState
  have HOA := hide oA
  have hdn := dec_size st.num (by omega) (by omega)
  have hdo := dec_size st.plan.open_ (by omega) (by omega)
  have HDN := hide (fun W => specDec_nn st.num hnum.1 (by omega) W)
  have HDO := hide (fun W => specDec_nn st.plan.open_ hop.1 (by omega) W)
  have HIF := hide (stays_iff st x)
  clear hs wa wb oA wc wd we wf oB
  go_enter Tryz.func103, Tryz.ntmps103
  go_upto_region 1 with fail
  generalize hwA : w.alloc (.cells #[.int .i64 st.code, .int .i64 st.num, .slice Ap st.plan.parts.length cp, .int .i64 st.plan.open_, .int .i64 st.plan.first, .int .i64 st.size, .bool st.torn, .int .i64 st.next, .slice Ar st.records.length cr] 33) = wA
  have hA : Below w.heap.size w wA := by rw [← hwA]; exact (Below.refl _ _).alloc (Nat.le_refl _) _
  have HZ := hide (show Row wA w.heap.size 33 [.int .i64 st.code, .int .i64 st.num, .slice Ap st.plan.parts.length cp, .int .i64 st.plan.open_, .int .i64 st.plan.first, .int .i64 st.size, .bool st.torn, .int .i64 st.next, .slice Ar st.records.length cr] from by rw [← hwA]; exact Row.new w _ _)
  have HB := hide hA
  clear hwA hA
  have q1 := HZ.out.cell 1
  have q3 := HZ.out.cell 3
  have ql := HZ.out.lt
  by_cases h1 : x = ⟨#[109]⟩ ++ dec st.num
  · have HT := hide (tb_true (HIF.out.2 (.inl h1)))
    obtain ⟨e1, e2⟩ := eqL h1
    clear h1 HIF
    go_wp2_with fail
    refine (HDN.out _).mono ?_
    rintro e w2 ⟨rfl, hb2⟩
    have HB2 := hide (HB.out.trans (hb2.mono HB.out.size))
    clear hb2
    go_wp2
    go_ret
    exact ⟨ret_bool HT.out.symm, HB2.out⟩
  obtain ⟨e1, e2⟩ := neL h1
  go_wp2_with fail
  refine (HDN.out _).mono ?_
  rintro e w2 ⟨rfl, hb2⟩
  have HB2 := hide (HB.out.trans (hb2.mono HB.out.size))
  have HZ2 := hide (HZ.out.below hb2 HZ.out.lt)
  clear hb2 HB HZ q1 q3 ql
  have q3 := HZ2.out.cell 3
  have ql := HZ2.out.lt
  go_wp2_with fail
  refine (HDO.out _).mono ?_
  rintro e w3 ⟨rfl, hb3⟩
  have HB3 := hide (HB2.out.trans (hb3.mono HB2.out.size))
  have HZ3 := hide (HZ2.out.below hb3 HZ2.out.lt)
  have H1 := hide h1
  clear e1 e2 h1
  by_cases h2 : x = ⟨#[115]⟩ ++ dec st.plan.open_
  · have HT := hide (tb_true (HIF.out.2 (.inr (.inl h2))))
    obtain ⟨e3, e4⟩ := eqL h2
    clear h2 HIF hb3
    go_wp2
    go_ret
    exact ⟨ret_bool HT.out.symm, HB3.out⟩
  obtain ⟨e3, e4⟩ := neL h2
  have H2 := hide h2
  clear h2
  clear hb3 HB2 HZ2 q3 ql HDN HDO
  go_wp2
  clear e3 e4 hdn hdo
  go_loopw [5] (fun i wr => ∃ (j : Nat), i = .int .i64 (j : Int) ∧ j ≤ st.plan.parts.length ∧ (∀ i (h : i < st.plan.parts.length), i < j → x ≠ segName st.plan.parts[i].num) ∧ Row wr w.heap.size 33 [.int .i64 st.code, .int .i64 st.num, .slice Ap st.plan.parts.length cp, .int .i64 st.plan.open_, .int .i64 st.plan.first, .int .i64 st.size, .bool st.torn, .int .i64 st.next, .slice Ar st.records.length cr] ∧ Below w.heap.size w wr) (fun i _ => st.plan.parts.length - (intOf i).toNat)
  case atStart => exact ⟨0, rfl, Nat.zero_le _, (fun i h hi => absurd hi (Nat.not_lt_zero _)), HZ3.out, HB3.out⟩
  case round =>
    clear HZ3 HB3
    obtain ⟨j, rfl, hj, hne, hz, hbw⟩ := hrel
    have HNE := hide hne
    have HZ := hide hz
    have HB := hide hbw
    have HOR := hide (HOA.out.below hbw hf1.left)
    have q2 := hz.cell 2
    have ql := hz.lt
    clear hne hz hbw
    by_cases hlt : j < st.plan.parts.length
    · obtain ⟨g, off, ws, fi, rfl, hgm, hfi, hwl, hcs, hov⟩ := HOR.out.elem LogPart.cells_len hlt
      obtain ⟨rfl, w0, w1, w2', w3', rfl⟩ := hov.oLogPart
      have c0 := hcs 0 _ rfl
      simp only [Nat.add_zero] at c0
      have hgl := cell_lt c0
      have hji : (j : Int) < (st.plan.parts.length : Int) := by omega
      have hjn := hpn j hlt
      have HYS := hide (fun (h : x = segName st.plan.parts[j].num) => tb_true (HIF.out.2 (.inr (.inr ⟨j, hlt, h⟩))))
      have HST := hide (show x ≠ segName st.plan.parts[j].num → ∀ i (h : i < st.plan.parts.length), i < j + 1 → x ≠ segName st.plan.parts[i].num from fun h i hi hij => by
        by_cases e : i = j
        · subst e
          exact h
        · exact HNE.out i hi (by omega))
      have hdp := dec_size st.plan.parts[j].num (by omega) (by omega)
      have HDP := hide (fun W => specDec_nn st.plan.parts[j].num hjn.1 (by omega) W)
      clear hcs hov w0 w1 w2' w3'
      generalize st.plan.parts[j] = y at *
      by_cases h1 : x = ⟨#[115]⟩ ++ dec y.num
      · have HT := hide (HYS.out h1)
        obtain ⟨e1, e2⟩ := eqL h1
        clear h1 HIF HYS HST
        go_wp2_with fail
        refine (HDP.out _).mono ?_
        rintro e w4 ⟨rfl, hb4⟩
        have HB4 := hide (HB.out.trans (hb4.mono HB.out.size))
        clear hb4
        go_wp2
        go_ret
        exact ⟨ret_bool HT.out.symm, HB4.out⟩
      · obtain ⟨e1, e2⟩ := neL h1
        have HS2 := hide (HST.out h1)
        clear h1 HYS HST
        go_wp2_with fail
        refine (HDP.out _).mono ?_
        rintro e w4 ⟨rfl, hb4⟩
        have HB4 := hide (HB.out.trans (hb4.mono HB.out.size))
        have HZ4 := hide (HZ.out.below hb4 HZ.out.lt)
        clear hb4
        go_wp2
        go_roundw
        case rel => exact ⟨j + 1, by go_num, by omega, HS2.out, HZ4.out, HB4.out⟩
        case measure => simp [intOf]; omega
    · obtain rfl : j = st.plan.parts.length := by omega
      have HT := hide (tb_false (p := x ∈ stays st) (fun h => by
        rcases HIF.out.1 h with h | h | ⟨i, hi, h⟩
        · exact H1.out h
        · exact H2.out h
        · exact HNE.out i hi hi h))
      clear HIF
      go_wp2
      go_ret
      exact ⟨ret_bool HT.out.symm, HB.out⟩
end Go.Proofs.YtddjgbhkfdpffaaGreatDoor
