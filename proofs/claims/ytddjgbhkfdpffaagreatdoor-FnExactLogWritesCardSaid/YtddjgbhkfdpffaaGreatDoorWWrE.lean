/-
  The writes of an act on a log: how the reference mends. Printed by gen/wre.py.
-/
import Derived.Test.YtddjgbhkfdpffaaGreatDoorWWrD
import Derived.Test.YtddjgbhkfdpffaaGreatDoorWCutW
set_option linter.unusedVariables false
set_option linter.unusedSimpArgs false
namespace Go.Proofs.YtddjgbhkfdpffaaGreatDoor
open Go.ChangeShapes Go.WideShapes Go.ChangeAt Go.RowKit

theorem OwS.ofLit {α : Type} (w : World) (B : Nat) (hB : B ≤ w.heap.size) (e : TypeId) (k : Nat) (f : α → List D) (hk : ∀ x, (f x).length = k) (l : List α) (cs : List Value) (hc : OwC w (l.flatMap f) cs []) (hn : l.length ≤ 1000) :
    OwS (w.alloc (.cells cs.toArray e)) B e k f (.slice (some ⟨w.heap.size, 0, none⟩) l.length l.length) l cs [] := by
  have hl : cs.length = l.length * k := by rw [hc.length, flat_len f k hk]
  exact ⟨⟨by rw [hl], .inr ⟨w.heap.size, l.length, _, rfl, hB, heap_alloc_new w _, Nat.le_refl _, by unfold maxLen; omega, by simp [hl], by simp [← hl]⟩⟩, hc.far, New.nil _ _, fun g _ => by simp⟩
theorem writes_plain (l : List DiskWrite) : ∀ d ∈ l.flatMap DiskWrite.cells, ∃ x, d = .v x := fun d hd => by
  obtain ⟨x, _, hx⟩ := List.mem_flatMap.1 hd
  rw [DiskWrite.cells_eq] at hx
  simp only [List.mem_cons, List.not_mem_nil, or_false] at hx
  rcases hx with rfl | rfl | rfl <;> exact ⟨_, rfl⟩
theorem Ow.srcWrites {w : World} {l : List DiskWrite} {A : Option Addr} {n c : Nat} {fp : List Nat} (h : Ow w (.s 3 l.length (l.flatMap DiskWrite.cells)) (.slice A n c) fp) : ∃ us, OwC w (l.flatMap DiskWrite.cells) us [] ∧ SrcAt w us A n c := by
  obtain ⟨us, f2, h1, h2, _⟩ := h.srcAt
  obtain rfl := OwC.plain _ (writes_plain l) h1
  exact ⟨us, h1, h2⟩
theorem wr2_none {w w' : World} {o : Option (List DiskWrite)} {code : Int} {e : Ending} (hp : o = none) (h : WrRet2 w o code e w') : ∃ v fq, e = .returned (.tuple #[v, .int .i64 code]) ∧ Ow w' (.s 3 ([] : List DiskWrite).length (([] : List DiskWrite).flatMap DiskWrite.cells)) v fq ∧ New w' fq w.heap.size ∧ Below w.heap.size w w' := by
  subst hp
  obtain ⟨⟨v, fq, rfl, h1, h2⟩, hb⟩ := h
  exact ⟨v, fq, rfl, h1, h2, hb⟩
theorem wr2_some {w w' : World} {o : Option (List DiskWrite)} {code : Int} {e : Ending} {l : List DiskWrite} (hp : o = some l) (h : WrRet2 w o code e w') : ∃ A n c fq, e = .returned (.tuple #[.slice A n c, .int .i64 0]) ∧ Ow w' (.s 3 l.length (l.flatMap DiskWrite.cells)) (.slice A n c) fq ∧ New w' fq w.heap.size ∧ Below w.heap.size w w' := by
  subst hp
  obtain ⟨⟨v, fq, rfl, ho, hn⟩, hb⟩ := h
  obtain ⟨A, c, rfl, _⟩ := ho.slice
  exact ⟨A, _, c, fq, rfl, ho, hn, hb⟩
theorem closeW_len {names : List ByteArray} {st : LogState} {l : List DiskWrite} (h : closeW names st = some l) : l.length = 7 := by
  unfold closeW at h
  split at h
  · injection h with h
    rw [← h]
    rfl
  · cases h
theorem own_ne_gb {w w' : World} {v v' u : Value} (hg : GB w w' v v') (hn : ∀ g, v.ownBlock = some g → u.ownBlock ≠ some g) (hl : ∀ g, u.ownBlock = some g → g < w.heap.size) : ∀ g, v'.ownBlock = some g → u.ownBlock ≠ some g := fun g e h => by
  rcases gb_new hg e with k | k
  · exact hn g k h
  · have := hl g h; omega
theorem goners_len (l : List ByteArray) (st : LogState) : (goners l st).length ≤ l.length := List.length_filter_le _ _
theorem keepers_le (l : List ByteArray) (st : LogState) : (keepers l st).length ≤ l.length := List.length_filter_le _ _
/-- the writes so far -/
noncomputable def sweep (l : List ByteArray) (st : LogState) : List DiskWrite := wOf 3 (segName st.plan.open_) :: (goners l st).map (wOf 4)
theorem sweep_no (l : List ByteArray) (st : LogState) (j : Nat) (h : j < l.length) (hm : tb (l[j] ∈ stays st) = false) : sweep (l.take (j + 1)) st = sweep (l.take j) st ++ [wOf 4 l[j]] ∧ keepers (l.take (j + 1)) st = keepers (l.take j) st := by
  unfold sweep
  rw [goners_succ l st j h, keepers_succ l st j h, hm]
  simp
theorem sweep_yes (l : List ByteArray) (st : LogState) (j : Nat) (h : j < l.length) (hm : tb (l[j] ∈ stays st) = true) : sweep (l.take (j + 1)) st = sweep (l.take j) st ∧ keepers (l.take (j + 1)) st = keepers (l.take j) st ++ [l[j]] := by
  unfold sweep
  rw [goners_succ l st j h, keepers_succ l st j h, hm]
  simp
theorem sweep_len (l : List ByteArray) (st : LogState) : (sweep l st).length ≤ l.length + 1 := by
  have := goners_len l st
  unfold sweep
  rw [List.length_cons, List.length_map]
  omega
theorem Disk.swept_eq (d : Disk) (st : LogState) : d.swept st = sweep d.shown st ++ [wOf 5 .empty] := rfl
theorem Disk.mended_whole {d : Disk} {st : LogState} (h : st.torn = false) : d.mended st = some (d.swept st) := by
  unfold Disk.mended
  rw [if_neg (by rw [h]; simp)]
theorem Disk.mended_torn {d : Disk} {st : LogState} (h : st.torn = true) : d.mended st = (closeW (stays st) st).map (d.swept st ++ ·) := by
  unfold Disk.mended
  rw [if_pos h]
theorem picked_names {d : Disk} (hok : tb d.ok = true) {l : List ByteArray} (hl : ∀ x ∈ l, x ∈ d.shown) : (l.map (pickFile d.files)).map DiskFile.name = l := by
  rw [List.map_map]
  conv => rhs; rw [← List.map_id l]
  refine List.map_congr_left (fun x hx => ?_)
  have h := hl x hx
  rw [Disk.shown_yes hok] at h
  obtain ⟨k, hk⟩ := d.cut_found hok _ (Nat.le_refl _) x h
  obtain ⟨_, e1, e2⟩ := pickFile_at hk
  show (pickFile d.files x).name = x
  rw [e1, e2]
set_option maxRecDepth 100000 in
set_option maxHeartbeats 8000000 in
theorem l44Mend_any (d : Disk) (us0 : List Value) (fp : List Nat) (st : LogState) (us1 : List Value) (fp1 : List Nat) (w : World) (h : OwC w d.cells us0 fp) (hf : Lt fp w.heap.size) (hbk : d.bulk ≤ 1048576) (hs : OwC w st.cells us1 fp1) (hf1 : Lt fp1 w.heap.size) (HW : d.Whole st) :
    Calls Tryz.prog 55 #[.agg us0.toArray, .agg us1.toArray] w (WrRet2 w (d.mended st) 4) := by
  have HOC := hide h
  have HSC := hide hs
  obtain ⟨A1, c1, A2, c2, A3, c3, f1, f2, f3, rfl, o1, o2, o3, rfl⟩ := h.oDisk
  obtain ⟨Ap, cp, Ar, cr, g1, g2, rfl, wa, wb, oA, wc, wd, we, wf, oB, rfl⟩ := hs.oLogState
  have hpl := HW.plan.1
  have hop := HW.plan.2.1
  have hnum := HW.num
  have hfl := (tb_got HW.ok).1
  have HWH := hide HW
  have hsl := d.shown_len
  have HNM := hide (fun (W : World) (hb : Below w.heap.size w W) => specDiskNames_any d _ _ W (HOC.out.below hb hf) (hf.up hb) hbk)
  have HOU := hide (fun (x : ByteArray) (W : World) (hb : Below w.heap.size w W) => l44Ours_any st _ _ x W (HSC.out.below hb hf1) (hf1.up hb) hpl (by omega) (by omega) (fun i hi => by have := (HWH.out.plan.2.2.1 i hi).1; omega))
  have HKP := hide (fun (W : World) (hb : Below w.heap.size w W) (A : Option Addr) (n c : Nat) (fk : List Nat) (hk : Ow W (.s 1 (keepers d.shown st).length ((keepers d.shown st).flatMap strC)) (.slice A n c) fk) (hfk : Lt fk W.heap.size) => l41Keep_any d _ _ (keepers d.shown st) A n c fk W (HOC.out.below hb hf) (hf.up hb) (by omega) hk hfk (by have := keepers_le d.shown st; omega) (fun x hx => by
    have h2 : x ∈ d.shown := (List.mem_filter.1 hx).1
    rw [Disk.shown_yes HWH.out.ok] at h2
    exact d.cut_found HWH.out.ok _ (Nat.le_refl _) x h2))
  have HCL := hide (fun (D : Disk) (hD : D.fileList = keepers d.shown st) (us : List Value) (fd : List Nat) (W : World) (hb : Below w.heap.size w W) (ho : OwC W D.cells us fd) (hl : Lt fd W.heap.size) => l44Close_any D us fd st _ _ W ho hl (HSC.out.below hb hf1) (hf1.up hb) (fun i hi => by
      have h1 : D.files[i].name ∈ D.fileList := List.mem_map.2 ⟨_, List.getElem_mem hi, rfl⟩
      rw [hD] at h1
      have := Disk.shown_size (List.mem_filter.1 h1).1
      omega) (by
      have h1 : D.files.length = D.fileList.length := by unfold Disk.fileList; rw [List.length_map]
      rw [h1, hD]
      have := keepers_le d.shown st
      omega) hpl (by omega) (fun ht hl => by
      rw [hD] at ht ⊢
      exact closed_ok HWH.out (fun x hx => (keepers_mem HWH.out x).2 hx) ht hl))
  have HCW := hide (closeW_keepers HW)
  have hdo := dec_size st.plan.open_ (by omega) (by omega)
  have HDO := hide (fun W => specDec_nn st.plan.open_ (by omega) (by omega) W)
  obtain ⟨ia, hia, ha0, ha1, ha2⟩ := info_parts8 info_write
  have HIa := hide hia
  obtain ⟨ib, hib, hb0, hb1, hb2⟩ := info_parts info_string
  have HIb := hide hib
  have hsp := names_size st.plan.open_ (by omega)
  clear h hs o1 o2 o3 oA oB wa wb wc wd we wf hia hib HW
  go_enter Tryz.func55, Tryz.ntmps55
  go_upto_region 1 with fail
  generalize hwA : w.alloc (.cells #[.slice A1 d.files.length c1, .slice A2 d.names.length c2, .slice A3 d.moves.length c3] 38) = wA
  have hA : Below w.heap.size w wA := by rw [← hwA]; exact (Below.refl _ _).alloc (Nat.le_refl _) _
  have hsA : wA.heap.size = w.heap.size + 1 := by rw [← hwA]; simp
  have RA : Row wA w.heap.size 38 [.slice A1 d.files.length c1, .slice A2 d.names.length c2, .slice A3 d.moves.length c3] := by rw [← hwA]; exact Row.new w _ _
  try simp only [hsA]
  clear hwA
  generalize hwB : wA.alloc (.cells #[.int .i64 st.code, .int .i64 st.num, .slice Ap st.plan.parts.length cp, .int .i64 st.plan.open_, .int .i64 st.plan.first, .int .i64 st.size, .bool st.torn, .int .i64 st.next, .slice Ar st.records.length cr] 33) = wB
  have hAB : Below wA.heap.size wA wB := by rw [← hwB]; exact (Below.refl _ _).alloc (Nat.le_refl _) _
  have HZ1 := hide (show Row wB (w.heap.size + 1) 33 [.int .i64 st.code, .int .i64 st.num, .slice Ap st.plan.parts.length cp, .int .i64 st.plan.open_, .int .i64 st.plan.first, .int .i64 st.size, .bool st.torn, .int .i64 st.next, .slice Ar st.records.length cr] from by rw [← hwB, ← hsA]; exact Row.new wA _ _)
  have HR1 := hide (RA.below hAB RA.lt)
  have HB1 := hide (hA.trans (hAB.mono hA.size))
  clear hwB hAB hA hsA RA
  have z3 := HZ1.out.cell 3
  have zl := HZ1.out.lt
  go_wp2_with fail
  refine (HDO.out _).mono ?_
  rintro e w2 ⟨rfl, hb2⟩
  have HB2 := hide (HB1.out.trans (hb2.mono HB1.out.size))
  have HR2 := hide (HR1.out.below hb2 HR1.out.lt)
  have HZ2 := hide (HZ1.out.below hb2 HZ1.out.lt)
  clear hb2 z3 zl HR1 HZ1 HB1
  go_upto_region 2 with fail
  have HE0 := hide (OwS.ofLit w2 w2.heap.size (Nat.le_refl _) 98 3 DiskWrite.cells DiskWrite.cells_len [wOf 3 (segName st.plan.open_)] [.int .i64 3, .string ((⟨#[115]⟩ : ByteArray) ++ dec st.plan.open_), .string ⟨#[]⟩] (wr_src (wOf 3 (segName st.plan.open_)) (show (Lit.int .i64 3).wf = true by decide) (by show (segName st.plan.open_).size ≤ maxLen; unfold maxLen; omega) (Nat.zero_le _) w2) (by simp))
  have hC : Below w2.heap.size w2 (w2.alloc (.cells #[.int .i64 3, .string (⟨#[115]⟩ ++ dec st.plan.open_), .string ⟨#[]⟩] 98)) := (Below.refl _ _).alloc (Nat.le_refl _) _
  have hs3 : w2.heap.size + 1 ≤ (w2.alloc (.cells #[.int .i64 3, .string (⟨#[115]⟩ ++ dec st.plan.open_), .string ⟨#[]⟩] 98)).heap.size := by rw [World.size_alloc]; exact Nat.le_refl _
  generalize w2.alloc (.cells #[.int .i64 3, .string (⟨#[115]⟩ ++ dec st.plan.open_), .string ⟨#[]⟩] 98) = w3 at *
  simp only [List.length_singleton] at HE0
  have HB3 := hide (HB2.out.trans (hC.mono HB2.out.size))
  have HR3 := hide (HR2.out.below hC HR2.out.lt)
  have HZ3 := hide (HZ2.out.below hC HZ2.out.lt)
  have hws : w.heap.size + 1 < w2.heap.size := HZ2.out.lt
  clear hC HB2 HR2 HZ2 HDO
  have d0 := HR3.out.cell 0
  have d1 := HR3.out.cell 1
  have d2 := HR3.out.cell 2
  have ld := HR3.out.lt
  go_wp2_with fail
  refine (HNM.out w3 HB3.out).mono ?_
  rintro e w4 ⟨v, fq, rfl, hq, hqn, hb4⟩
  obtain ⟨Aq, cq, rfl, _, hqm⟩ := hq.slice
  unfold maxLen at hqm
  have HE4 := hide (HE0.out.below (C := 0) hb4)
  have HB4 := hide (HB3.out.trans (hb4.mono HB3.out.size))
  have HR4 := hide (HR3.out.below hb4 ld)
  have HZ4 := hide (HZ3.out.below hb4 HZ3.out.lt)
  have hs4 : w2.heap.size + 1 ≤ w4.heap.size := Nat.le_trans hs3 hb4.size
  have HQ := hide hq
  have HQL := hide hqn.lt
  have HQO := hide (fun (g : Nat) (e : (Value.slice (some ⟨w2.heap.size, 0, none⟩) 1 1).ownBlock = some g) => show g ∉ fq from by
    injection e with e
    subst e
    exact hqn.out hs3)
  clear hb4 hq hqn HE0 HB3 HR3 HZ3 HNM d0 d1 d2 ld hs3
  go_upto_region 4 with fail
  have HL0 := hide (OwS.lit0 w4 w2.heap.size (by omega) 9 1 strC)
  have hC : Below w4.heap.size w4 (w4.alloc (.cells #[] 9)) := (Below.refl _ _).alloc (Nat.le_refl _) _
  have hs5 : w4.heap.size + 1 ≤ (w4.alloc (.cells #[] 9)).heap.size := by rw [World.size_alloc]; exact Nat.le_refl _
  generalize w4.alloc (.cells #[] 9) = w5 at *
  have HE5 := hide (HE4.out.below (C := 0) hC)
  have HB5 := hide (HB4.out.trans (hC.mono HB4.out.size))
  have HR5 := hide (HR4.out.below hC HR4.out.lt)
  have HZ5 := hide (HZ4.out.below hC HZ4.out.lt)
  have HQ5 := hide (HQ.out.below hC HQL.out)
  have hl5 := HQL.out.mono hC.size
  have HLO := hide (fun (g : Nat) (e : (Value.slice (some ⟨w4.heap.size, 0, none⟩) 0 0).ownBlock = some g) => show g ∉ fq from by
    injection e with e
    subst e
    exact HQL.out.not_mem (Nat.le_refl _))
  have HEL := hide (fun (g : Nat) (e : (Value.slice (some ⟨w2.heap.size, 0, none⟩) 1 1).ownBlock = some g) => show (Value.slice (some ⟨w4.heap.size, 0, none⟩) 0 0).ownBlock ≠ some g from fun h => by
    injection e with e
    injection h with h
    dsimp only at e h
    omega)
  clear hC HE4 HB4 HR4 HZ4 HQ HQL
  go_wp2
  go_loopw [6, 8, 9] (fun o lf i wr => ∃ (j : Nat) (A : Option Addr) (n c : Nat) (us : List Value) (B : Option Addr) (m e : Nat) (vs : List Value), o = .slice A n c ∧ lf = .slice B m e ∧ i = .int .i64 (j : Int) ∧ j ≤ d.shown.length ∧ OwS wr w2.heap.size 98 3 DiskWrite.cells (.slice A n c) (sweep (d.shown.take j) st) us [] ∧ OwS wr w2.heap.size 9 1 strC (.slice B m e) (keepers (d.shown.take j) st) vs [] ∧ (∀ g, (Value.slice A n c).ownBlock = some g → (Value.slice B m e).ownBlock ≠ some g) ∧
    Ow wr (.s 1 d.shown.length (d.shown.flatMap strC)) (.slice Aq d.shown.length cq) fq ∧ Lt fq wr.heap.size ∧ (∀ g, (Value.slice A n c).ownBlock = some g → g ∉ fq) ∧ (∀ g, (Value.slice B m e).ownBlock = some g → g ∉ fq) ∧ Row wr w.heap.size 38 [.slice A1 d.files.length c1, .slice A2 d.names.length c2, .slice A3 d.moves.length c3] ∧ Row wr (w.heap.size + 1) 33 [.int .i64 st.code, .int .i64 st.num, .slice Ap st.plan.parts.length cp, .int .i64 st.plan.open_, .int .i64 st.plan.first, .int .i64 st.size, .bool st.torn, .int .i64 st.next, .slice Ar st.records.length cr] ∧ Below w.heap.size w wr ∧ w2.heap.size ≤ wr.heap.size) (fun _ _ i _ => d.shown.length - (intOf i).toNat)
  case atStart => exact ⟨0, _, _, _, _, _, _, _, _, rfl, rfl, rfl, Nat.zero_le _, HE5.out, HL0.out, HEL.out, HQ5.out, hl5, HQO.out, HLO.out, HR5.out, HZ5.out, HB5.out, by omega⟩
  case round =>
    clear HE5 HL0 HEL HQ5 hl5 HQO HLO HR5 HZ5 HB5 hs4 hs5
    obtain ⟨j, A, n, c, us, B, m, e, vs, rfl, rfl, rfl, hj, hoa, hob, hab, hoq, hlq, hna, hnb, hrd, hrz, hbw, hsw⟩ := hrel
    have HOA := hide hoa
    have HOB := hide hob
    have HAB := hide hab
    have HOQ := hide hoq
    have HNA := hide hna
    have HNB := hide hnb
    have HR := hide hrd
    have HZ := hide hrz
    have HB := hide hbw
    clear hoa hob hab hoq hna hnb hrd hrz hbw
    by_cases hlt : j < d.shown.length
    · obtain ⟨g, off, rfl, hgm, hcl, hsz⟩ := strs_at HOQ.out hlt
      have hgw := hlq _ hgm
      have hji : (j : Int) < (d.shown.length : Int) := by omega
      have hx8 := Disk.shown_size (d := d) (List.getElem_mem hlt)
      have HSY := hide (sweep_yes d.shown st j hlt)
      have HSN := hide (sweep_no d.shown st j hlt)
      have HOX := hide (HOU.out d.shown[j])
      have hsl1 := sweep_len (d.shown.take j) st
      have hsl2 := keepers_le (d.shown.take j) st
      rw [List.length_take] at hsl1 hsl2
      generalize d.shown[j] = x at *
      have z0 := HZ.out.cell 0
      have z1 := HZ.out.cell 1
      have z2 := HZ.out.cell 2
      have z3 := HZ.out.cell 3
      have z4 := HZ.out.cell 4
      have z5 := HZ.out.cell 5
      have z6 := HZ.out.cell 6
      have z7 := HZ.out.cell 7
      have z8 := HZ.out.cell 8
      have zl := HZ.out.lt
      go_wp2_with fail
      go_region_held3 (fun w' => w'.cell? ⟨w.heap.size + 1, 0, none⟩ = some (.int .i64 st.code) ∧ w'.cell? ⟨w.heap.size + 1, 1, none⟩ = some (.int .i64 st.num) ∧ w'.cell? ⟨w.heap.size + 1, 2, none⟩ = some (.slice Ap st.plan.parts.length cp) ∧ w'.cell? ⟨w.heap.size + 1, 3, none⟩ = some (.int .i64 st.plan.open_) ∧ w'.cell? ⟨w.heap.size + 1, 4, none⟩ = some (.int .i64 st.plan.first) ∧ w'.cell? ⟨w.heap.size + 1, 5, none⟩ = some (.int .i64 st.size) ∧ w'.cell? ⟨w.heap.size + 1, 6, none⟩ = some (.bool st.torn) ∧ w'.cell? ⟨w.heap.size + 1, 7, none⟩ = some (.int .i64 st.next) ∧ w'.cell? ⟨w.heap.size + 1, 8, none⟩ = some (.slice Ar st.records.length cr) ∧ w'.cell? ⟨g, off + j, none⟩ = some (.string x))
        (first | exact ⟨kcell2 z0 hbz zl, kcell2 z1 hbz zl, kcell2 z2 hbz zl, kcell2 z3 hbz zl, kcell2 z4 hbz zl, kcell2 z5 hbz zl, kcell2 z6 hbz zl, kcell2 z7 hbz zl, kcell2 z8 hbz zl, kcell2 hcl hbz hgw⟩ | go_keep)
        (first
          | (go_at_call 103; refine (HOX.out _ (below_drewN HB.out _)).mono ?_; rintro e w6 ⟨rfl, hb6⟩; have hbz : Below wr.heap.size wr w6 := (below_drewN (Below.refl _ wr) _).trans hb6))
      all_goals
        have HB6 := hide (HB.out.trans (hbz.mono HB.out.size))
        have HR6 := hide (HR.out.below hbz HR.out.lt)
        have HZ6 := hide (HZ.out.below hbz HZ.out.lt)
        have HA6 := hide (HOA.out.below (C := 0) hbz)
        have HB6' := hide (HOB.out.below (C := 0) hbz)
        have HQ6 := hide (HOQ.out.below hbz hlq)
        have hl6 := hlq.mono hbz.size
        have hcl6 := kcell2 hcl hbz hgw
        have hgw6 := Nat.lt_of_lt_of_le hgw hbz.size
        have hs6 := Nat.le_trans hsw hbz.size
        clear hbz hb6 z0 z1 z2 z3 z4 z5 z6 z7 z8 zl HR HZ HOA HOB HOQ hlq hcl hgw HB hsw
        by_cases hm : tb (x ∈ stays st) = true
        · obtain ⟨hy1, hy2⟩ := HSY.out hm
          have HY1 := hide hy1
          have HY2 := hide hy2
          have HDS := hide (fun W => str_src x (show x.size ≤ maxLen by unfold maxLen; omega) W)
          have HAL := hide (show Below w6.heap.size w6 (w6.alloc (.cells #[.string x] 9)) from (Below.refl _ _).alloc (Nat.le_refl _) _)
          have HOL := hide (HB6'.out.alloc (.cells #[.string x] 9))
          have hszB : w2.heap.size ≤ (w6.alloc (.cells #[.string x] 9)).heap.size := by rw [World.size_alloc]; omega
          rw [hm]
          clear hm HSY HSN hy1 hy2
          generalize keepers (d.shown.take j) st = K at *
          go_wp2_with (first | (at_builtin; refine wpl_app rfl _ _ 23 rfl ib _ 16 Tryz.underlying23 HIb.out hb0 hb1 hb2 rfl (by decide) strC_len rfl HOL.out [x] (HDS.out _) (by exact New.nil _ _) (fun g _ hg => by cases hg) _ 1 1 rfl rfl (SrcAt.new w6 _ _ _ _) (by omega) (by decide) hszB ?_; intro A5 n5 c5 w5 hn5 hown5 hgb5; have HG5 := hide hgb5; have HN5 := hide hown5; clear hgb5 hown5 hn5))
          go_roundw
          case rel =>
            have hgs := HG5.out.grown.size
            rw [World.size_alloc] at hgs
            have hne := own_ne_gb (u := .slice A n c) HG5.out (fun g e h => HAB.out g h e) (fun g h => by have := HA6.out.lt g h; rw [World.size_alloc]; omega)
            exact ⟨j + 1, A, n, c, us, A5, n5, c5, _, rfl, rfl, by go_num, by omega, by rw [HY1.out]; exact (HA6.out.alloc _).kept HG5.out.grown (fun g e => ⟨by simp, fun h => HAB.out g h e⟩), by rw [HY2.out]; exact HN5.out, (fun g e h => hne g h e), (HQ6.out.below HAL.out hl6).gb HG5.out HNB.out (hl6.alloc _), hl6.mono (by omega), HNA.out, apart_gb HG5.out HNB.out (hl6.alloc _), (HG5.out.row (HR6.out.alloc _) (HOL.out.low (by omega))), (HG5.out.row (HZ6.out.alloc _) (HOL.out.low hws)), HB6.out.trans ((HAL.out.mono HB6.out.size).trans (HG5.out.toBelow (by rw [World.size_alloc]; have := HB6.out.size; omega) (fun g e => by have := HOL.out.from e; omega))), by omega⟩
          case measure => simp [intOf]; omega
        · have hmf : tb (x ∈ stays st) = false := by simpa using hm
          obtain ⟨hy1, hy2⟩ := HSN.out hmf
          have HY1 := hide hy1
          have HY2 := hide hy2
          have HDS := hide (fun W => wr_src (wOf 4 x) (show (Lit.int .i64 4).wf = true by decide) (show x.size ≤ maxLen by unfold maxLen; omega) (Nat.zero_le _) W)
          have HAL := hide (show Below w6.heap.size w6 (w6.alloc (.cells #[.int .i64 4, .string x, .string ⟨#[]⟩] 98)) from (Below.refl _ _).alloc (Nat.le_refl _) _)
          have HOL := hide (HA6.out.alloc (.cells #[.int .i64 4, .string x, .string ⟨#[]⟩] 98))
          have hszB : w2.heap.size ≤ (w6.alloc (.cells #[.int .i64 4, .string x, .string ⟨#[]⟩] 98)).heap.size := by rw [World.size_alloc]; omega
          rw [hmf]
          clear hm hmf HSY HSN hy1 hy2
          generalize sweep (d.shown.take j) st = K at *
          go_wp2_with (first | (at_builtin; refine wpl_app rfl _ _ 49 rfl ia _ 40 Tryz.underlying49 HIa.out ha0 ha1 ha2 rfl (by decide) DiskWrite.cells_len rfl HOL.out [wOf 4 x] (HDS.out _) (by exact New.nil _ _) (fun g _ hg => by cases hg) _ 1 1 rfl rfl (SrcAt.new w6 _ _ _ _) (by omega) (by decide) hszB ?_; intro A5 n5 c5 w5 hn5 hown5 hgb5; have HG5 := hide hgb5; have HN5 := hide hown5; clear hgb5 hown5 hn5))
          go_roundw
          case rel =>
            have hgs := HG5.out.grown.size
            rw [World.size_alloc] at hgs
            have hne := own_ne_gb (u := .slice B m e) HG5.out HAB.out (fun g h => by have := HB6'.out.lt g h; rw [World.size_alloc]; omega)
            exact ⟨j + 1, A5, n5, c5, _, B, m, e, vs, rfl, rfl, by go_num, by omega, by rw [HY1.out]; exact HN5.out, by rw [HY2.out]; exact (HB6'.out.alloc _).kept HG5.out.grown (fun g e => ⟨by simp, HAB.out g e⟩), hne, (HQ6.out.below HAL.out hl6).gb HG5.out HNA.out (hl6.alloc _), hl6.mono (by omega), apart_gb HG5.out HNA.out (hl6.alloc _), HNB.out, (HG5.out.row (HR6.out.alloc _) (HOL.out.low (by omega))), (HG5.out.row (HZ6.out.alloc _) (HOL.out.low hws)), HB6.out.trans ((HAL.out.mono HB6.out.size).trans (HG5.out.toBelow (by rw [World.size_alloc]; have := HB6.out.size; omega) (fun g e => by have := HOL.out.from e; omega))), by omega⟩
          case measure => simp [intOf]; omega
    · obtain rfl : j = d.shown.length := by omega
      rw [List.take_length] at HOA HOB
      have hsl1 := sweep_len d.shown st
      have HDS := hide (fun W => wr_src (wOf 5 .empty) (show (Lit.int .i64 5).wf = true by decide) (Nat.zero_le _) (Nat.zero_le _) W)
      have HAL := hide (show Below wr.heap.size wr (wr.alloc (.cells #[.int .i64 5, .string ⟨#[]⟩, .string ⟨#[]⟩] 98)) from (Below.refl _ _).alloc (Nat.le_refl _) _)
      have HOL := hide (HOA.out.alloc (.cells #[.int .i64 5, .string ⟨#[]⟩, .string ⟨#[]⟩] 98))
      have hszB : w2.heap.size ≤ (wr.alloc (.cells #[.int .i64 5, .string ⟨#[]⟩, .string ⟨#[]⟩] 98)).heap.size := by rw [World.size_alloc]; omega
      have HSE := hide (d.swept_eq st)
      generalize sweep d.shown st = K at *
      go_upto_region 11 with (first | (at_builtin; refine wpl_app rfl _ _ 49 rfl ia _ 40 Tryz.underlying49 HIa.out ha0 ha1 ha2 rfl (by decide) DiskWrite.cells_len rfl HOL.out [wOf 5 .empty] (HDS.out _) (by exact New.nil _ _) (fun g _ hg => by cases hg) _ 1 1 rfl rfl (SrcAt.new wr _ _ _ _) (by omega) (by decide) hszB ?_; intro A5 n5 c5 w5 hn5 hown5 hgb5; have HG5 := hide hgb5; have HN5 := hide hown5; clear hgb5 hown5 hn5))
      have HSW := hide (show OwS w5 w2.heap.size 98 3 DiskWrite.cells (.slice A5 n5 c5) (d.swept st) _ [] from by rw [HSE.out]; exact HN5.out)
      have hgs := HG5.out.grown.size
      rw [World.size_alloc] at hgs
      have HB8 := hide (HB.out.trans ((HAL.out.mono HB.out.size).trans (HG5.out.toBelow (by rw [World.size_alloc]; have := HB.out.size; omega) (fun g e => by have := HOL.out.from e; omega))))
      have HR8 := hide (HG5.out.row (HR.out.alloc _) (HOL.out.low (by omega)))
      have HZ8 := hide (HG5.out.row (HZ.out.alloc _) (HOL.out.low hws))
      have HK8 := hide (show OwS w5 w2.heap.size 9 1 strC (.slice B m e) (keepers d.shown st) vs [] from (HOB.out.alloc _).kept HG5.out.grown (fun g e => ⟨by simp, fun h => HAB.out g e h⟩))
      have hs8 : w2.heap.size ≤ w5.heap.size := by omega
      have hwl : (d.swept st).length ≤ 70000000 := by rw [HSE.out, List.length_append]; simp only [List.length_singleton]; omega
      clear HAL HOL hszB HSE HN5 HG5 HOA HOB HR HZ HB HOQ HNA HNB HAB hlq hsl1
      obtain ⟨A5', c5', e5⟩ := HSW.out.form
      injection e5 with e5 e6 e7
      subst e5 e6 e7
      obtain ⟨S, hTS⟩ : ∃ S, d.swept st = S := ⟨_, rfl⟩
      rw [hTS] at HSW hwl ⊢
      have HTS := hide hTS
      clear hTS
      cases htn : st.torn with
      | false =>
        have HM := hide ((d.mended_whole htn).trans (by rw [HTS.out]))
        obtain ⟨fr, ho, hn⟩ := HSW.out.toOw
        have HF := hide ho
        have HFN := hide (hn.mono (by omega : w.heap.size ≤ w2.heap.size))
        have z6 := HZ8.out.cell 6
        have zl := HZ8.out.lt
        simp only [List.getElem?_cons_succ, List.getElem?_cons_zero] at z6
        rw [htn] at z6
        clear ho hn htn HCL HKP
        go_wp2
        go_ret2
        exact wr2_yes HM.out HF.out HFN.out HB8.out
      | true =>
        have HM := hide ((d.mended_torn htn).trans (by rw [HTS.out]))
        obtain ⟨fk, hko, hkn⟩ := HK8.out.toOw
        obtain ⟨Bx, ex, hbx⟩ := HK8.out.form
        injection hbx with hbx hbm hbe
        subst hbx hbm hbe
        have HKO := hide hko
        have hkl := hkn.lt
        have HKN := hide (picked_names HWH.out.ok (l := keepers d.shown st) (fun x hx => (List.mem_filter.1 hx).1))
        have hfd : (⟨(keepers d.shown st).map (pickFile d.files), keepers d.shown st, []⟩ : Disk).fileList = keepers d.shown st := HKN.out
        have HCX := hide (fun us fd W hb ho hl => HCL.out ⟨(keepers d.shown st).map (pickFile d.files), keepers d.shown st, []⟩ hfd us fd W hb ho hl)
        rw [hfd, HCW.out] at HCX
        have HKX := hide (fun W (hb : Below w5.heap.size w5 W) => HKP.out W (HB8.out.trans (hb.mono HB8.out.size)) _ _ _ fk (HKO.out.below hb hkl) (hkl.mono hb.size))
        clear hko hkn HKN hfd HCL HKP HCW
        have z6 := HZ8.out.cell 6
        have zl := HZ8.out.lt
        simp only [List.getElem?_cons_succ, List.getElem?_cons_zero] at z6
        rw [htn] at z6
        clear htn
        go_upto_region 13 with fail
        clear z6 zl
        have d0 := HR8.out.cell 0
        have d1 := HR8.out.cell 1
        have d2 := HR8.out.cell 2
        have ld := HR8.out.lt
        have z0 := HZ8.out.cell 0
        have z1 := HZ8.out.cell 1
        have z2 := HZ8.out.cell 2
        have z3 := HZ8.out.cell 3
        have z4 := HZ8.out.cell 4
        have z5 := HZ8.out.cell 5
        have z6 := HZ8.out.cell 6
        have z7 := HZ8.out.cell 7
        have z8 := HZ8.out.cell 8
        have zl := HZ8.out.lt
        generalize (⟨(keepers d.shown st).map (pickFile d.files), keepers d.shown st, []⟩ : Disk) = DK at HCX HKX
        generalize (keepers d.shown st).length = kn at *
        cases hcw : closeW (stays st) st with
        | none =>
          have HMN := hide (HM.out.trans (by rw [hcw]))
          have HCY := hide (fun us fd W hb ho hl => (HCX.out us fd W hb ho hl).mono (fun _ _ h => wr2_none hcw h))
          clear HM HCX hcw
          go_region_held3 (fun w' => w'.cell? ⟨w.heap.size, 0, none⟩ = some (.slice A1 d.files.length c1) ∧ w'.cell? ⟨w.heap.size, 1, none⟩ = some (.slice A2 d.names.length c2) ∧ w'.cell? ⟨w.heap.size, 2, none⟩ = some (.slice A3 d.moves.length c3) ∧ w'.cell? ⟨w.heap.size + 1, 0, none⟩ = some (.int .i64 st.code) ∧ w'.cell? ⟨w.heap.size + 1, 1, none⟩ = some (.int .i64 st.num) ∧ w'.cell? ⟨w.heap.size + 1, 2, none⟩ = some (.slice Ap st.plan.parts.length cp) ∧ w'.cell? ⟨w.heap.size + 1, 3, none⟩ = some (.int .i64 st.plan.open_) ∧ w'.cell? ⟨w.heap.size + 1, 4, none⟩ = some (.int .i64 st.plan.first) ∧ w'.cell? ⟨w.heap.size + 1, 5, none⟩ = some (.int .i64 st.size) ∧ w'.cell? ⟨w.heap.size + 1, 6, none⟩ = some (.bool st.torn) ∧ w'.cell? ⟨w.heap.size + 1, 7, none⟩ = some (.int .i64 st.next) ∧ w'.cell? ⟨w.heap.size + 1, 8, none⟩ = some (.slice Ar st.records.length cr))
            (first | exact ⟨kcell2 d0 hbz ld, kcell2 d1 hbz ld, kcell2 d2 hbz ld, kcell2 z0 hbz zl, kcell2 z1 hbz zl, kcell2 z2 hbz zl, kcell2 z3 hbz zl, kcell2 z4 hbz zl, kcell2 z5 hbz zl, kcell2 z6 hbz zl, kcell2 z7 hbz zl, kcell2 z8 hbz zl⟩ | go_keep)
            (first
              | (go_at_call 57; refine (HCY.out ud fd _ (HB8.out.trans (hby.mono HB8.out.size)) hod hnd.lt).mono ?_; rintro e w9 ⟨vx, fx, rfl, _, _, hb9⟩; have hbz : Below w5.heap.size w5 w9 := hby.trans (hb9.mono hby.size))
              | (go_at_call 104; refine (HKX.out _ (below_drewN (Below.refl _ w5) _)).mono ?_; rintro e w8 ⟨ud, fd, rfl, hod, hnd, hb8⟩; have hbz : Below w5.heap.size w5 w8 := (below_drewN (Below.refl _ w5) _).trans hb8; have hby := hbz))
          all_goals
            have HB9 := hide (HB8.out.trans (hbz.mono HB8.out.size))
            clear hbz hby hb8 hb9 d0 d1 d2 ld z0 z1 z2 z3 z4 z5 z6 z7 z8 zl HCY HKX hod hnd
            go_wp2
            go_ret2
            exact wr2_no HMN.out (Ow.lit0 _ _ _ _) (New.nil _ _) (HB9.out.alloc HB9.out.size _)
        | some L =>
          have HMN := hide (HM.out.trans (by rw [hcw]))
          have HCY := hide (fun us fd W hb ho hl => (HCX.out us fd W hb ho hl).mono (fun _ _ h => wr2_some hcw h))
          have hL7 := closeW_len hcw
          clear HM HCX hcw
          go_region_held3 (fun w' => w'.cell? ⟨w.heap.size, 0, none⟩ = some (.slice A1 d.files.length c1) ∧ w'.cell? ⟨w.heap.size, 1, none⟩ = some (.slice A2 d.names.length c2) ∧ w'.cell? ⟨w.heap.size, 2, none⟩ = some (.slice A3 d.moves.length c3) ∧ w'.cell? ⟨w.heap.size + 1, 0, none⟩ = some (.int .i64 st.code) ∧ w'.cell? ⟨w.heap.size + 1, 1, none⟩ = some (.int .i64 st.num) ∧ w'.cell? ⟨w.heap.size + 1, 2, none⟩ = some (.slice Ap st.plan.parts.length cp) ∧ w'.cell? ⟨w.heap.size + 1, 3, none⟩ = some (.int .i64 st.plan.open_) ∧ w'.cell? ⟨w.heap.size + 1, 4, none⟩ = some (.int .i64 st.plan.first) ∧ w'.cell? ⟨w.heap.size + 1, 5, none⟩ = some (.int .i64 st.size) ∧ w'.cell? ⟨w.heap.size + 1, 6, none⟩ = some (.bool st.torn) ∧ w'.cell? ⟨w.heap.size + 1, 7, none⟩ = some (.int .i64 st.next) ∧ w'.cell? ⟨w.heap.size + 1, 8, none⟩ = some (.slice Ar st.records.length cr))
            (first | exact ⟨kcell2 d0 hbz ld, kcell2 d1 hbz ld, kcell2 d2 hbz ld, kcell2 z0 hbz zl, kcell2 z1 hbz zl, kcell2 z2 hbz zl, kcell2 z3 hbz zl, kcell2 z4 hbz zl, kcell2 z5 hbz zl, kcell2 z6 hbz zl, kcell2 z7 hbz zl, kcell2 z8 hbz zl⟩ | go_keep)
            (first
              | (go_at_call 57; refine (HCY.out ud fd _ (HB8.out.trans (hby.mono HB8.out.size)) hod hnd.lt).mono ?_; rintro e w9 ⟨Am, nm, cm, fm, rfl, hom, hnm2, hb9⟩; have hbz : Below w5.heap.size w5 w9 := hby.trans (hb9.mono hby.size))
              | (go_at_call 104; refine (HKX.out _ (below_drewN (Below.refl _ w5) _)).mono ?_; rintro e w8 ⟨ud, fd, rfl, hod, hnd, hb8⟩; have hbz : Below w5.heap.size w5 w8 := (below_drewN (Below.refl _ w5) _).trans hb8; have hby := hbz))
          all_goals
            have HB9 := hide (HB8.out.trans (hbz.mono HB8.out.size))
            have HS9 := hide (HSW.out.below (C := 0) hbz)
            have hszB : w2.heap.size ≤ w9.heap.size := Nat.le_trans hs8 hbz.size
            obtain ⟨rfl, hmc, hmm⟩ := hom.nlen
            obtain ⟨um, hum, hsm⟩ := hom.srcWrites
            have HUM := hide hum
            have HSM := hide hsm
            clear hbz hby hb8 hb9 d0 d1 d2 ld z0 z1 z2 z3 z4 z5 z6 z7 z8 zl HCY HKX hod hnd hom hnm2 hum hsm
            go_wp2_with (first | (at_builtin; refine wpl_app rfl _ _ 49 rfl ia _ 40 Tryz.underlying49 HIa.out ha0 ha1 ha2 rfl (by decide) DiskWrite.cells_len rfl HS9.out L HUM.out (by exact New.nil _ _) (fun g _ hg => by cases hg) _ _ _ rfl rfl HSM.out (by omega) (by decide) hszB ?_; intro A5 n5 c5 w5 hn5 hown5 hgb5; have HG5 := hide hgb5; have HN5 := hide hown5; clear hgb5 hown5 hn5))
            go_ret2
            obtain ⟨fr, ho, hn⟩ := HN5.out.toOw
            exact wr2_yes HMN.out ho (hn.mono (by omega)) (HB9.out.trans (HG5.out.toBelow (by have := HB9.out.size; omega) (fun g e => by have := HS9.out.from e; omega)))
end Go.Proofs.YtddjgbhkfdpffaaGreatDoor
