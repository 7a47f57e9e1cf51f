/-
  The draws of the reference: a schema that is spoilt.
-/
import Derived.Test.YtnaecdoeldoipaaGreatDoorKSpoil0
import Derived.Test.YtnaecdoeldoipaaGreatDoorKTreeTS
import Derived.Test.YtnaecdoeldoipaaGreatDoorKDrawT
set_option linter.unusedVariables false
set_option linter.unusedSimpArgs false
namespace Go.Proofs.YtnaecdoeldoipaaGreatDoor
open Go.ChangeShapes Go.WideShapes Go.ChangeAt Go.RowKit

def SpoilOut (g : Nat) (L : List UInt8) (k N M lo : Nat) (fp : List Nat) (w : World) (e : Ending) (w' : World) : Prop :=
  ∃ (y : Kind) (us : List Value) (fq : List Nat) (k' : Nat), e = .returned (.agg us.toArray) ∧ OwC w' y.cells us fq ∧ New w' fq lo ∧ (∀ b ∈ fq, b ∈ fp ∨ w.heap.size ≤ b) ∧ y.bulk ≤ N ∧ k' ≤ k + M ∧ RdD w' g L k' ∧ w.grownBy w' (some g)
def SpoilK (x : Kind) : Prop := ∀ (us : List Value) (fp : List Nat) (L : List UInt8) (k g lo : Nat) (w : World), OwC w x.cells us fp → New w fp lo → g < lo → lo ≤ w.heap.size → RdD w g L k → x.bulk ≤ 1000000 → k + 3 * x.bulk ≤ 90000000 →
  Calls Tryz.prog 56 #[.pointer (some ⟨g, 0, none⟩), .agg us.toArray] w (SpoilOut g L k (x.bulk + 1000) (3 * x.bulk + 100) lo fp w)
/-- the state of a spoiling: the box, the result's block, what the schema's slices hold, the source -/
structure SpS (x : Kind) (A1 : Option Addr) (c1 : Nat) (A2 : Option Addr) (c2 : Nat) (f1 f2 : List Nat) (lo g : Nat) (L : List UInt8) (w W : World) (k' : Nat) : Prop where
  X : Row W w.heap.size 38 [.int .i64 x.sort, .slice A1 x.names.length c1, .slice A2 x.kids.length c2]
  Z : Row W (w.heap.size + 1) 38 [.int .i64 0, .slice none 0 0, .slice none 0 0]
  o1 : Ow W (.s 1 x.names.length (x.names.flatMap strC)) (.slice A1 x.names.length c1) f1
  o2 : Ow W (.s 3 x.kids.length (x.kids.flatMap Kind.cells)) (.slice A2 x.kids.length c2) f2
  hn : New W (f1 ++ f2) lo
  rd : RdD W g L k'
  gr : w.grownBy W (some g)
theorem SpS.tick {x : Kind} {A1 : Option Addr} {c1 : Nat} {A2 : Option Addr} {c2 : Nat} {f1 f2 : List Nat} {lo g : Nat} {L : List UInt8} {w W W' : World} {k' k2 : Nat}
    (h : SpS x A1 c1 A2 c2 f1 f2 lo g L w W k') (hg : W.grownBy W' (some g)) (hr : RdD W' g L k2) (hgl : g < lo) (hlo : lo ≤ w.heap.size) : SpS x A1 c1 A2 c2 f1 f2 lo g L w W' k2 := by
  have hgf : ∀ q, some g = some q → q ∉ f1 ++ f2 := fun q e hm => by
    injection e with e
    subst e
    have := (h.hn.fr _ hm).1
    omega
  exact ⟨h.X.grown hg (fun e => by injection e with e; omega), h.Z.grown hg (fun e => by injection e with e; omega),
    Ow.frame _ (fun q hm => hg.block q (h.hn.lt _ (List.mem_append.2 (.inl hm))) (fun e => hgf q e.symm (List.mem_append.2 (.inl hm)))) h.o1,
    Ow.frame _ (fun q hm => hg.block q (h.hn.lt _ (List.mem_append.2 (.inr hm))) (fun e => hgf q e.symm (List.mem_append.2 (.inr hm)))) h.o2,
    h.hn.grown hg hgf, hr, only_trans h.gr hg⟩
/-- what lies below the box and its result stays when only later blocks turn -/
theorem SpS.low9 {x : Kind} {A1 : Option Addr} {c1 : Nat} {A2 : Option Addr} {c2 : Nat} {f1 f2 : List Nat} {lo g : Nat} {L : List UInt8} {w W W' : World} {k' B : Nat}
    (h : SpS x A1 c1 A2 c2 f1 f2 lo g L w W k') (hb : Below B W W') (hB : w.heap.size + 2 ≤ B) (hf : Lt (f1 ++ f2) w.heap.size) (hgw : g < w.heap.size) (hgl : g < lo) (hlo : lo ≤ w.heap.size) : SpS x A1 c1 A2 c2 f1 f2 lo g L w W' k' :=
  ⟨h.X.below hb (by omega), h.Z.below hb (by omega), h.o1.below hb (hf.left.mono (by omega)), h.o2.below hb (hf.right.mono (by omega)),
    h.hn.below hb (hf.mono (by omega)), h.rd.low hb (by omega), only_low h.gr hb (by omega)⟩
theorem wf8 {q : Nat} (h : q < 8) : (Lit.int .i64 (q : Int)).wf = true := by
  obtain rfl | rfl | rfl | rfl | rfl | rfl | rfl | rfl : q = 0 ∨ q = 1 ∨ q = 2 ∨ q = 3 ∨ q = 4 ∨ q = 5 ∨ q = 6 ∨ q = 7 := by omega
  all_goals decide
/-- the state of the way v = 3: a form that grows -/
structure SpF (g : Nat) (L : List UInt8) (w : World) (B k3 : Nat) (wr : World) (j : Nat) (v1 : Value) (ns : List ByteArray) (us1 : List Value) (v2 : Value) (ks : List Kind) (us2 : List Value) (k' : Nat) : Prop where
  two : Two wr w.heap.size B 38 (kindMk 5) 9 1 strC v1 ns us1 [] 38 3 Kind.cells v2 ks us2 []
  rd : RdD wr g L k'
  hn : ns.length = j
  hk : ks.length = j
  bn : bulkStrs ns ≤ 22 * j
  bk : Kind.bulkS ks = 0
  pk : k' ≤ k3 + j
  gr : w.grownBy wr (some g)
  z : Row wr (w.heap.size + 1) 38 [.int .i64 0, .slice none 0 0, .slice none 0 0]
  sz : B ≤ wr.heap.size
  hj : j ≤ 40
theorem SpF.tick {g : Nat} {L : List UInt8} {w : World} {B k3 : Nat} {wr w5 : World} {j : Nat} {v1 : Value} {ns : List ByteArray} {us1 : List Value} {v2 : Value} {ks : List Kind} {us2 : List Value} {k' : Nat}
    (h : SpF g L w B k3 wr j v1 ns us1 v2 ks us2 k') (hg : wr.grownBy w5 (some g)) (hr : RdD w5 g L (k' + 1)) (hgw : g < w.heap.size) : SpF g L w B (k3 + 1) w5 j v1 ns us1 v2 ks us2 (k' + 1) :=
  ⟨h.two.far hg hgw, hr, h.hn, h.hk, h.bn, h.bk, by have := h.pk; omega, only_trans h.gr hg, h.z.grown hg (fun e => by injection e with e; omega), Nat.le_trans h.sz hg.size, h.hj⟩
/-- with a name more than kids -/
structure SpN (g : Nat) (L : List UInt8) (w : World) (B : Nat) (wr : World) (v1 : Value) (ns : List ByteArray) (us1 : List Value) (v2 : Value) (ks : List Kind) (us2 : List Value) (k' : Nat) : Prop where
  two : Two wr w.heap.size B 38 (kindMk 5) 9 1 strC v1 ns us1 [] 38 3 Kind.cells v2 ks us2 []
  rd : RdD wr g L k'
  gr : w.grownBy wr (some g)
  z : Row wr (w.heap.size + 1) 38 [.int .i64 0, .slice none 0 0, .slice none 0 0]
  sz : B ≤ wr.heap.size
/-- the state of the way v = 4: a schema that is wrapped -/
structure SpW (g : Nat) (L : List UInt8) (w : World) (B k5 : Nat) (wr : World) (n : Nat) (y : Kind) (us : List Value) (fq : List Nat) : Prop where
  X : Row wr w.heap.size 38 us
  ow : OwC wr y.cells us fq
  nw : New wr fq B
  z : Row wr (w.heap.size + 1) 38 [.int .i64 0, .slice none 0 0, .slice none 0 0]
  rd : RdD wr g L k5
  gr : w.grownBy wr (some g)
  bk : y.bulk + n ≤ 6
  sz : B ≤ wr.heap.size
theorem SpW.wrap {g : Nat} {L : List UInt8} {w : World} {B k5 : Nat} {wr : World} {n m : Nat} {y : Kind} {us : List Value} {fq : List Nat} (h : SpW g L w B k5 wr n y us fq) (hm : n = m + 1) {W1 : World} (hb : Below wr.heap.size wr W1) {kb : Nat} (hkb : wr.heap.size ≤ kb)
    (hr : Row W1 kb 38 us) {s : Int} (hs : (Lit.int .i64 s).wf = true) (hgw : g < w.heap.size) (hB : w.heap.size + 2 ≤ B) :
    SpW g L w B k5 (putN W1 w.heap.size 0 [.int .i64 s, .slice none 0 0, .slice (some ⟨kb, 0, none⟩) 1 1]) m (.mk s [] [y]) [.int .i64 s, .slice none 0 0, .slice (some ⟨kb, 0, none⟩) 1 1] (kb :: fq) := by
  have hlx : w.heap.size < wr.heap.size := h.X.lt
  have hgr := setN_grown [.int .i64 s, .slice none 0 0, .slice (some ⟨kb, 0, none⟩) 1 1] 0 (grown_refl W1 (some w.heap.size))
  have hlt : Lt fq wr.heap.size := h.nw.lt
  have hkf : kb ∉ fq := fun hm => by have := hlt _ hm; omega
  have hn : New W1 (kb :: fq) B := ⟨(h.nw.fr.mono (Nat.le_refl _) hb.size).cons (Nat.le_trans h.sz hkb) hr.lt, List.nodup_cons.2 ⟨hkf, h.nw.nd⟩, fun q hq => by
    rcases List.mem_cons.1 hq with rfl | hq
    · exact Unf.row hr
    · exact (h.nw.uf q hq).same (hb.block q (hlt q hq))⟩
  have hno : ∀ q, some w.heap.size = some q → q ∉ kb :: fq := fun q e hm => by
    injection e with e
    subst e
    have := (hn.fr _ hm).1
    omega
  have hbx : Below w.heap.size W1 (putN W1 w.heap.size 0 [.int .i64 s, .slice none 0 0, .slice (some ⟨kb, 0, none⟩) 1 1]) := below_of_grown hgr (Nat.le_refl _) (by have := hb.size; omega)
  refine ⟨(h.X.below hb hlx).setAll _ (by rw [h.ow.length, Kind.cells_len]; rfl), (kone_ow hs (h.ow.below hb hlt) kb hr).grown' hgr hn.lt hno, hn.grown hgr hno, (h.z.below hb h.z.lt).grown hgr (fun e => by injection e with e; omega), (h.rd.below hb).low hbx hgw, only_low (only_low h.gr hb (by omega)) hbx (Nat.le_refl _), ?_, Nat.le_trans h.sz (Nat.le_trans hb.size hgr.size)⟩
  have := h.bk
  rw [Kind.bulk_one]
  omega
theorem putN_past (w : World) (g : Nat) (a b c : Value) (o1 o2 : Obj) (hg : g < w.heap.size) :
    (((putN w g 0 [a, b, c]).alloc o1).alloc o2).drew = putN ((w.drew.alloc o1).alloc o2) g 0 [a, b, c] := by
  have h2 : g < w.heap.size + 1 := Nat.lt_succ_of_lt hg
  have hs : ∀ (W : World) (i : Addr) (u : Value), (W.setCell i u).heap.size = W.heap.size := fun W i u => by simp
  simp only [putN, World.alloc_drew, World.setCell_drew]
  rw [World.setCell_alloc_past, World.setCell_alloc_past, World.setCell_alloc_past, World.setCell_alloc_past, World.setCell_alloc_past, World.setCell_alloc_past]
  all_goals first | assumption | (simp only [hs, World.size_alloc]; assumption)
theorem SpW.wrapA {g : Nat} {L : List UInt8} {w : World} {B k5 : Nat} {wr : World} {n m : Nat} {y : Kind} {us : List Value} {fq : List Nat} (h : SpW g L w B k5 wr n y us fq) (hm : n = m + 1) {s : Int} (hs : (Lit.int .i64 s).wf = true) (hgw : g < w.heap.size) (hB : w.heap.size + 2 ≤ B) (o1 : Obj) :
    SpW g L w B k5 (((putN wr w.heap.size 0 [.int .i64 s, .slice none 0 0, .slice (some ⟨wr.heap.size + 1, 0, none⟩) 1 1]).alloc o1).alloc (.cells us.toArray 38)).drew m (.mk s [] [y]) [.int .i64 s, .slice none 0 0, .slice (some ⟨wr.heap.size + 1, 0, none⟩) 1 1] ((wr.heap.size + 1) :: fq) := by
  rw [putN_past _ _ _ _ _ _ _ h.X.lt]
  refine h.wrap hm (((below_drewN (Below.refl _ wr) 1).alloc (Nat.le_refl _) _).alloc (by simp) _) (Nat.le_succ _) ?_ hs hgw hB
  have h := Row.new (wr.drew.alloc o1) 38 us
  rw [World.size_alloc] at h
  exact h
theorem SpW.wrapB {g : Nat} {L : List UInt8} {w : World} {B k5 : Nat} {wr : World} {n m : Nat} {y : Kind} {us : List Value} {fq : List Nat} (h : SpW g L w B k5 wr n y us fq) (hm : n = m + 1) {s : Int} (hs : (Lit.int .i64 s).wf = true) (hgw : g < w.heap.size) (hB : w.heap.size + 2 ≤ B) (o2 : Obj) :
    SpW g L w B k5 (((putN wr w.heap.size 0 [.int .i64 s, .slice none 0 0, .slice (some ⟨wr.heap.size, 0, none⟩) 1 1]).alloc (.cells us.toArray 38)).alloc o2).drew m (.mk s [] [y]) [.int .i64 s, .slice none 0 0, .slice (some ⟨wr.heap.size, 0, none⟩) 1 1] (wr.heap.size :: fq) := by
  rw [putN_past _ _ _ _ _ _ _ h.X.lt]
  exact h.wrap hm (((below_drewN (Below.refl _ wr) 1).alloc (Nat.le_refl _) _).alloc (by simp) _) (Nat.le_refl _) ((Row.new wr.drew 38 us).alloc _) hs hgw hB
def DecOut (w : World) (e : Ending) (w' : World) : Prop := ∃ d : ByteArray, e = .returned (.string d) ∧ d.size ≤ 20 ∧ Below w.heap.size w w'
theorem specDec_out (j : Nat) (hj : j ≤ 40) (w : World) : Calls Tryz.prog 83 #[.int .i64 (100 + (j : Int))] w (DecOut w) := by
  have h := specDecN_any (100 + j) w (by omega)
  rw [show ((100 + j : Nat) : Int) = 100 + (j : Int) by omega] at h
  refine h.mono ?_
  rintro e w' ⟨rfl, hb⟩
  exact ⟨_, rfl, dec_size _ (by omega) (by omega), hb⟩
set_option maxRecDepth 100000 in
set_option maxHeartbeats 4000000 in
theorem spoilK_of (x : Kind) (ih : ∀ y ∈ x.kids, SpoilK y) : SpoilK x := by
  intro us fp L k g lo w ho hn hgl hlo hr hb hk
  obtain ⟨A1, c1, A2, c2, f1, f2, rfl, w0, o1, o2, rfl⟩ := ho.oKind
  have hgw := hr.lt
  have hf := hn.lt
  have HEND := hide (fun (W : World) (y : Kind) (vs : List Value) (fq : List Nat) (k' : Nat) (ho : OwC W y.cells vs fq) (hn : New W fq lo) (hs : ∀ b ∈ fq, b ∈ f1 ++ f2 ∨ w.heap.size + 2 ≤ b) (hx : y.bulk ≤ x.bulk + 1000) (hk' : k' ≤ k + (3 * x.bulk + 100)) (hr : RdD W g L k') (hg : w.grownBy W (some g)) =>
    show SpoilOut g L k (x.bulk + 1000) (3 * x.bulk + 100) lo (f1 ++ f2) w (.returned (.agg vs.toArray)) (putN W (w.heap.size + 1) 0 vs) from by
      have hgr := setN_grown vs 0 (grown_refl W (some (w.heap.size + 1)))
      have hno : w.heap.size + 1 ∉ fq := fun hm => by
        rcases hs _ hm with h | h
        · have := hf _ h; omega
        · omega
      have hb : Below w.heap.size W (putN W (w.heap.size + 1) 0 vs) := below_of_grown hgr (by omega) hg.size
      exact ⟨y, vs, fq, k', rfl, ho.grown hgr hn.lt hno, hn.grown hgr (fun b e => by injection e with e; subst e; exact hno), (fun b hb => (hs b hb).imp_right (fun h => by omega)), hx, hk', hr.low hb hgw, only_low hg hb (Nat.le_refl _)⟩)
  obtain ⟨-, hn1, hm1⟩ := o1.nlen
  obtain ⟨-, hn2, hm2⟩ := o2.nlen
  unfold maxLen at hm1 hm2
  have HI := hide ih
  have HN := hide hn
  have HR := hide hr
  have O1 := hide o1
  have O2 := hide o2
  clear ho ih hn hr o1 o2
  go_enter Tryz.func56, Tryz.ntmps56
  go_upto_region 1 with fail
  generalize hw1 : World.alloc _ _ = w1
  have hb0 : Below w.heap.size w w1 := by rw [← hw1]; exact ((Below.refl _ _).alloc (Nat.le_refl _) _).alloc (by simp) _
  have HS := hide (show SpS x A1 c1 A2 c2 f1 f2 lo g L w w1 k from
    ⟨by rw [← hw1]; exact (Row.new w _ _).alloc _, by
      rw [← hw1]
      have h := Row.new (w.alloc (.cells #[.int .i64 x.sort, .slice A1 x.names.length c1, .slice A2 x.kids.length c2] 38)) 38 [.int .i64 0, .slice none 0 0, .slice none 0 0]
      simpa using h, O1.out.below hb0 hf.left, O2.out.below hb0 hf.right, HN.out.below hb0 hf, HR.out.below hb0, grownBy_below hb0 (some g)⟩)
  clear hw1 hb0 O1 O2 HN HR
  have b2 := HS.out.X.cell 2
  have lb := HS.out.X.lt
  go_cut [17] from 9 to 18 (fun s17 wx => ∃ (b : Bool) (k1 : Nat), s17 = .bool b ∧ (b = true → 0 < x.kids.length) ∧ k1 ≤ k + 1 ∧ SpS x A1 c1 A2 c2 f1 f2 lo g L w wx k1)
  case first =>
    by_cases h0 : x.kids.length = 0
    · have h0i : ¬ ((0 : Int) < (x.kids.length : Int)) := by omega
      clear h0
      go_wp2_with fail
      go_meet
      exact ⟨false, k, rfl, (fun h => by cases h), by omega, HS.out⟩
    · have h0i : (0 : Int) < (x.kids.length : Int) := by omega
      have H0 := hide h0
      clear h0
      have HP := hide (pick_any HS.out.rd (n := 3) (by omega) (by omega) (by omega))
      go_wp2_with fail
      refine HP.out.mono ?_
      rintro e w5 ⟨r3, rfl, hr3, h5, hg5⟩
      go_wp2_with fail
      go_meet
      exact ⟨_, k + 1, rfl, fun _ => by have := H0.out; omega, Nat.le_refl _, HS.out.tick hg5 h5 hgl hlo⟩
  clear b2 lb HS
  obtain ⟨bb, k1, rfl, hbb, hk1, hs⟩ := hcut
  obtain ⟨w2, rfl⟩ : ∃ W, W = wc := ⟨_, rfl⟩
  have HS := hide hs
  clear hs
  rcases bb with _ | _
  rotate_left
  · have hkl : 0 < x.kids.length := hbb rfl
    clear hbb
    obtain ⟨ib, hib, jb0, jb1, jb2⟩ := info_parts info_Kind'
    have HIb := hide hib
    clear hib
    have hl3 : w.heap.size + 2 ≤ w2.heap.size := HS.out.Z.lt
    have hAA : Below w2.heap.size w2 (w2.alloc (.cells #[] 38)) := (Below.refl _ _).alloc (Nat.le_refl _) _
    obtain ⟨usk, fk, hok, hsk, hsub, hnk⟩ := (HS.out.o2.below hAA HS.out.hn.rightK.lt).srcNew (HS.out.hn.rightK.alloc _)
    have HE := hide (OwS.emptyL (f := Kind.cells) w2 lo (by omega) 38 3)
    have HNO := hide (show ∀ q, (Value.slice (some ⟨w2.heap.size, 0, none⟩) 0 0).ownBlock = some q → q ∉ fk from fun q e hm => by
      have e2 : w2.heap.size = q := by simpa [Value.ownBlock] using e
      have := HS.out.hn.rightK.lt _ (hsub hm)
      omega)
    have HOK := hide hok
    have HSK := hide hsk
    have HSUB := hide hsub
    have HNK := hide (show New (w2.alloc (.cells #[] 38)) ([] ++ fk) lo from hnk)
    have HAA := hide hAA
    clear hok hsk hnk hAA hsub
    have b2 := HS.out.X.cell 2
    have lb := HS.out.X.lt
    have hkl6 : x.kids.length ≤ 1000000 := by have := x.bulk_eq; omega
    go_wp2_with (first
      | (at_builtin; refine wpl_app rfl _ _ 36 rfl ib _ 56 Tryz.underlying36 HIb.out jb0 jb1 jb2 rfl (by decide) Kind.cells_len rfl HE.out x.kids HOK.out HNK.out HNO.out _ _ _ rfl rfl HSK.out (by simp; omega) (by decide) (by rw [World.size_alloc]; omega) ?_; intro A5 n5 c5 w5 hn5 hown5 hgb5; have hgb6 : GB (w2.alloc (.cells #[] 38)) w5 (.slice (some ⟨w2.heap.size, 0, none⟩) 0 0) (.slice A5 n5 c5) := hgb5; have hown6 : OwS w5 lo 38 3 Kind.cells (.slice A5 n5 c5) x.kids usk fk := hown5; have HB5 := hide (HAA.out.trans (hgb6.toBelow (B := w2.heap.size) (by rw [World.size_alloc]; omega) (fun q e => by (have e2 : w2.heap.size = q := by simpa [Value.ownBlock] using e); omega))); have HGE5 := hide (fun q (e : (Value.slice A5 n5 c5).ownBlock = some q) => show w2.heap.size ≤ q from hgb6.from (B := w2.heap.size) (by rw [World.size_alloc]; omega) (fun q e => by (have e2 : w2.heap.size = q := by simpa [Value.ownBlock] using e); omega) q e); have HS5 := hide (HS.out.tick (grownBy_below HB5.out (some g)) (HS.out.rd.below HB5.out) hgl hlo); have HO5 := hide hown6; have HN5 := hide hn5; clear hown5 hown6 hgb5 hgb6 hn5)
      | fail)
    obtain rfl : n5 = x.kids.length := by have := HN5.out; simpa using this
    have HP := hide (pick_any HS5.out.rd (n := x.kids.length) (by omega) (by omega) (by omega))
    go_wp2_with fail
    refine HP.out.mono ?_
    rintro e w6 ⟨i, rfl, hi, h6, hg6⟩
    have HS6 := hide (HS5.out.tick hg6 h6 hgl hlo)
    have HO6 := hide (HO5.out.kept hg6 (fun q e => by injection e with e; subst e; exact ⟨HO5.out.nlow hgl, HO5.out.low hgl⟩))
    obtain ⟨g5, rfl, -, hg5lo, hg5lt⟩ := HO6.out.block hkl
    have hg5 : w2.heap.size ≤ g5 := HGE5.out g5 rfl
    obtain ⟨l1, y, l2, hsplit, hl1⟩ := sp_split_at x.kids i hi
    have hc := HO6.out.cells
    rw [hsplit, List.flatMap_append, List.flatMap_cons] at hc
    obtain ⟨u1, u9, p1, p9, rfl, rfl, hc1, hc9, hu1⟩ := hc.splitK
    obtain ⟨u0, u2, p0, p2, rfl, rfl, hc0, hc2, hu0⟩ := hc9.splitK
    have hy3 : u0.length = 3 := by rw [hu0, Kind.cells_len]
    have hu1i : u1.length = i * 3 := by rw [hu1, flat_len Kind.cells 3 Kind.cells_len, hl1]
    obtain ⟨q0, q1, q2, rfl⟩ : ∃ a b c, u0 = [a, b, c] := by
      match u0, hy3 with
      | [a, b, c], _ => exact ⟨a, b, c, rfl⟩
    have k0 : w6.cell? ⟨g5, i * 3, none⟩ = some q0 := (HO6.out.cellAt (j := i * 3) (by rw [← hu1i, List.getElem?_append_right (Nat.le_refl _)]; simp)).1
    have k1c : w6.cell? ⟨g5, i * 3 + 1, none⟩ = some q1 := (HO6.out.cellAt (j := i * 3 + 1) (by rw [← hu1i, List.getElem?_append_right (by omega)]; simp)).1
    have k2 : w6.cell? ⟨g5, i * 3 + 2, none⟩ = some q2 := (HO6.out.cellAt (j := i * 3 + 2) (by rw [← hu1i, List.getElem?_append_right (by omega)]; simp)).1
    have HC1 := hide hc1
    have HC2 := hide hc2
    have HSP := hide hsplit
    have HU1 := hide hu1i
    have hN0 : New w6 p0 lo := (HO6.out.new.rightK).leftK
    have HLT6 := hide (show Lt (p1 ++ (p0 ++ p2)) w6.heap.size from HO6.out.new.lt)
    have hw26 : w2.heap.size ≤ w6.heap.size := Nat.le_trans HB5.out.size hg6.size
    have hyb : y.bulk + 1 ≤ x.bulk := by
      have h := x.bulk_eq
      rw [hsplit, Kind.bulkS_append] at h
      simp only [Kind.bulkS, List.length_append, List.length_cons] at h
      omega
    have HK := hide (HI.out y (by rw [hsplit]; simp) [q0, q1, q2] p0 L (k1 + 1) g lo w6 hc0 hN0 hgl (Nat.le_trans (by omega) (Nat.le_of_lt HS6.out.Z.lt)) HS6.out.rd (by omega) (by omega))
    have hii : (i : Int) < (x.kids.length : Int) := by omega
    clear hsplit hc hc9 hc1 hc2 hc0 h6 hg6 HP HS5 HO5 hN0 HE HNO HOK HSK HNK hu1 hu0 b2 lb hu1i hi hl1
    go_upto_region 4 with fail
    go_wp2_with fail
    refine HK.out.mono ?_
    rintro e w7 ⟨y7, us7, fq7, k7, rfl, ho7, hn7, hs7, hb7, hk7, hr7, hg7⟩
    have HO7 := hide ho7
    have HN7 := hide hn7
    have HF7 := hide hs7
    have HS7 := hide (HS6.out.tick hg7 hr7 hgl hlo)
    have HG7 := hide (HO6.out.kept hg7 (fun q e => by injection e with e; subst e; exact ⟨HO6.out.nlow hgl, HO6.out.low hgl⟩))
    have hgn : ∀ q, some g = some q → q ∉ p1 ++ (p0 ++ p2) := fun q e => by injection e with e; subst e; exact HO6.out.nlow hgl
    have HC71 := hide (HC1.out.grown' hg7 (fun b hb => HO6.out.new.lt b (by simp [hb])) (fun q e hm => hgn q e (by simp [hm])))
    have HC72 := hide (HC2.out.grown' hg7 (fun b hb => HO6.out.new.lt b (by simp [hb])) (fun q e hm => hgn q e (by simp [hm])))
    obtain ⟨E1, e1, E2, e2, r1, r2, rfl, -, -, -, -⟩ := ho7.oKind
    have f0 : w7.frozen? ⟨g5, i * 3, none⟩ = false := (HG7.out.cellAt (j := i * 3) (u := q0) (by rw [← HU1.out, List.getElem?_append_right (Nat.le_refl _)]; simp)).2.1
    have f1c : w7.frozen? ⟨g5, i * 3 + 1, none⟩ = false := (HG7.out.cellAt (j := i * 3 + 1) (u := q1) (by rw [← HU1.out, List.getElem?_append_right (by omega)]; simp)).2.1
    have f2c : w7.frozen? ⟨g5, i * 3 + 2, none⟩ = false := (HG7.out.cellAt (j := i * 3 + 2) (u := q2) (by rw [← HU1.out, List.getElem?_append_right (by omega)]; simp)).2.1
    obtain ⟨v0, hv0⟩ : ∃ v, w7.cell? ⟨g5, i * 3, none⟩ = some v := ⟨q0, (HG7.out.cellAt (j := i * 3) (u := q0) (by rw [← HU1.out, List.getElem?_append_right (Nat.le_refl _)]; simp)).1⟩
    obtain ⟨v1, hv1⟩ : ∃ v, w7.cell? ⟨g5, i * 3 + 1, none⟩ = some v := ⟨q1, (HG7.out.cellAt (j := i * 3 + 1) (u := q1) (by rw [← HU1.out, List.getElem?_append_right (by omega)]; simp)).1⟩
    obtain ⟨v2, hv2⟩ : ∃ v, w7.cell? ⟨g5, i * 3 + 2, none⟩ = some v := ⟨q2, (HG7.out.cellAt (j := i * 3 + 2) (u := q2) (by rw [← HU1.out, List.getElem?_append_right (by omega)]; simp)).1⟩
    have hg7lt : g5 < w7.heap.size := Nat.lt_of_lt_of_le hg5lt hg7.size
    have hw67 : w6.heap.size ≤ w7.heap.size := hg7.size
    clear ho7 hn7 hs7 hr7 hg7 k0 k1c k2 HK HS6 HO6 HC1 HC2
    go_upto_region 5 with fail
    generalize hw8 : World.setCell (World.setCell (World.setCell w7 _ _) _ _) _ _ = w8
    have hput : putN w7 g5 u1.length [.int .i64 y7.sort, .slice E1 y7.names.length e1, .slice E2 y7.kids.length e2] = w8 := by rw [HU1.out]; exact hw8
    have hG : OwS w7 lo 38 3 Kind.cells (.slice (some ⟨g5, 0, none⟩) x.kids.length c5) (l1 ++ y :: l2) (u1 ++ ([q0, q1, q2] ++ u2)) (p1 ++ (p0 ++ p2)) := by rw [← HSP.out]; exact HG7.out
    have hP := hG.putAt HC71.out HC72.out rfl HO7.out rfl HN7.out (fun b hb => by
      rcases HF7.out b hb with h | h
      · exact .inl h
      · exact .inr ⟨fun hm => (by have := HLT6.out b (by simp [hm]); omega), fun hm => (by have := HLT6.out b (by simp [hm]); omega), by omega⟩)
    rw [hput] at hP
    have hgr8 : w7.grownBy w8 (some g5) := by rw [← hput]; exact setN_grown _ _ (grown_refl _ _)
    have HS8 := hide (HS7.out.low9 (below_of_grown hgr8 hg5 (by omega)) hl3 hf hgw hgl hlo)
    have HP8 := hide hP
    clear hw8 hput hG hP hgr8 HS7 HG7 HC71 HC72 HO7 HN7 f0 f1c f2c hv0 hv1 hv2

    have b0 := HS8.out.X.cell 0
    have b1 := HS8.out.X.cell 1
    have b2 := HS8.out.X.cell 2
    have a0 := HS8.out.X.frozen 0
    have a1 := HS8.out.X.frozen 1
    have a2 := HS8.out.X.frozen 2
    have lb := HS8.out.X.lt
    have z0 := HS8.out.Z.cell 0
    have y0 := HS8.out.Z.frozen 0
    have z1 := HS8.out.Z.cell 1
    have y1 := HS8.out.Z.frozen 1
    have z2 := HS8.out.Z.cell 2
    have y2 := HS8.out.Z.frozen 2
    have lz := HS8.out.Z.lt
    go_wp2
    obtain ⟨fq, hofq, hnfq, hsfq⟩ := sp_kids_fin (s := x.sort) (ns := x.names) w0 HS8.out.o1 HS8.out.hn.leftK HP8.out (fun q hq => by
      have h1 := hf q (List.mem_append.2 (.inl hq))
      have hd := fun hm => (List.nodup_append.1 HS8.out.hn.nd).2.2 q hq q (HSUB.out hm) rfl
      refine ⟨fun e => by (have e2 : g5 = q := by simpa [Value.ownBlock] using e); omega, fun hm => ?_⟩
      simp only [List.mem_append] at hm hd
      rcases hm with hm | hm | hm
      · exact hd (.inl hm)
      · rcases HF7.out q hm with h | h
        · exact hd (.inr (.inl h))
        · omega
      · exact hd (.inr (.inr hm)))
    have hsf : ∀ b ∈ fq, b ∈ f1 ++ f2 ∨ w.heap.size + 2 ≤ b := fun b hb => by
      rcases hsfq b hb with h | h | h
      · exact .inl (List.mem_append.2 (.inl h))
      · (have e2 : g5 = b := by simpa [Value.ownBlock] using h); exact .inr (by omega)
      · simp only [List.mem_append] at h
        rcases h with h | h | h
        · exact .inl (List.mem_append.2 (.inr (HSUB.out (by simp [h]))))
        · rcases HF7.out b h with h | h
          · exact .inl (List.mem_append.2 (.inr (HSUB.out (by simp [h]))))
          · exact .inr (by omega)
        · exact .inl (List.mem_append.2 (.inr (HSUB.out (by simp [h]))))
    have hgr : w8.grownBy (w8.setCell ⟨w.heap.size, 2, none⟩ (.slice (some ⟨g5, 0, none⟩) x.kids.length c5)) (some w.heap.size) := grownBy_setCell w8 ⟨w.heap.size, 2, none⟩ _
    have hbx : Below w.heap.size w8 (w8.setCell ⟨w.heap.size, 2, none⟩ (.slice (some ⟨g5, 0, none⟩) x.kids.length c5)) := below_of_grown hgr (Nat.le_refl _) HS8.out.gr.size
    refine bodyPost_ret (ret_row rfl _ _ (w.heap.size + 1) 38 [.int .i64 x.sort, .slice A1 x.names.length c1, .slice (some ⟨g5, 0, none⟩) x.kids.length c5] ((HS8.out.Z.far (p := ⟨w.heap.size, 2, none⟩) (by simp) _).setAll [.int .i64 x.sort, .slice A1 x.names.length c1, .slice (some ⟨g5, 0, none⟩) x.kids.length c5] rfl) _ rfl Tryz.underlying38 rfl (by kernel_rfl)) rfl ?_
    have hnq : ∀ q, some w.heap.size = some q → q ∉ fq := fun q e hm => by
      injection e with e
      subst e
      rcases hsf _ hm with h | h
      · have := hf _ h; omega
      · omega
    have hbk9 : bulkStrs x.names + (l1 ++ y7 :: l2).length + Kind.bulkS (l1 ++ y7 :: l2) ≤ x.bulk + 1000 := by
      have h := x.bulk_eq
      rw [HSP.out] at h
      simp only [Kind.bulkS_append, Kind.bulkS, List.length_append, List.length_cons] at h ⊢
      omega
    exact HEND.out _ (.mk x.sort x.names (l1 ++ y7 :: l2)) _ fq k7 (hofq.grown' hgr hnfq.lt hnq) (hnfq.grown hgr hnq) hsf (by rw [Kind.bulk_eq]; exact hbk9) (by omega) (HS8.out.rd.low hbx hgw) (only_low HS8.out.gr hbx (Nat.le_refl _))
  clear hbb
  have HP := hide (pick_any HS.out.rd (n := 5) (by omega) (by omega) (by omega))
  go_wp2_with fail
  refine HP.out.mono ?_
  rintro e w3 ⟨v, rfl, hv, h3, hg3⟩
  have HT := hide (HS.out.tick hg3 h3 hgl hlo)
  clear HP HS h3 hg3
  have hv5 : v = 0 ∨ v = 1 ∨ v = 2 ∨ v = 3 ∨ v = 4 := by omega
  clear hv
  rcases hv5 with rfl | rfl | rfl | rfl | rfl
  · have HP := hide (pick_any HT.out.rd (n := 8) (by omega) (by omega) (by omega))
    go_wp2_with fail
    refine HP.out.mono ?_
    rintro e w4 ⟨q, rfl, hq, h4, hg4⟩
    have HU := hide (HT.out.tick hg4 h4 hgl hlo)
    clear HP HT h4 hg4
    have b0 := HU.out.X.cell 0
    have a0 := HU.out.X.frozen 0
    have b1 := HU.out.X.cell 1
    have b2 := HU.out.X.cell 2
    have lb := HU.out.X.lt
    have z0 := HU.out.Z.cell 0
    have y0 := HU.out.Z.frozen 0
    have z1 := HU.out.Z.cell 1
    have y1 := HU.out.Z.frozen 1
    have z2 := HU.out.Z.cell 2
    have y2 := HU.out.Z.frozen 2
    have lz := HU.out.Z.lt
    go_wp2
    have hgr : w4.grownBy (w4.setCell ⟨w.heap.size, 0, none⟩ (.int .i64 (q : Int))) (some w.heap.size) := grownBy_setCell w4 ⟨w.heap.size, 0, none⟩ _
    have hbx : Below w.heap.size w4 (w4.setCell ⟨w.heap.size, 0, none⟩ (.int .i64 (q : Int))) := below_of_grown hgr (Nat.le_refl _) HU.out.gr.size
    have hnx : ∀ h, some w.heap.size = some h → h ∉ f1 ++ f2 := fun h e hm => by
      injection e with e
      subst e
      have := hf _ hm
      omega
    refine bodyPost_ret (ret_row rfl _ _ (w.heap.size + 1) 38 [.int .i64 (q : Int), .slice A1 x.names.length c1, .slice A2 x.kids.length c2] ((HU.out.Z.far (p := ⟨w.heap.size, 0, none⟩) (by simp) _).setAll [.int .i64 (q : Int), .slice A1 x.names.length c1, .slice A2 x.kids.length c2] rfl) _ rfl Tryz.underlying38 rfl (by kernel_rfl)) rfl ?_
    exact HEND.out _ (.mk q x.names x.kids) _ (f1 ++ f2) (k1 + 1 + 1) ((OwC.mKind (x := Kind.mk q x.names x.kids) (wf8 hq) HU.out.o1 HU.out.o2).grown' hgr HU.out.hn.lt hnx) (HU.out.hn.grown hgr hnx) (fun b hb => .inl hb) (by rw [Kind.bulk_eq, x.bulk_eq]; simp only [Kind.names, Kind.kids]; omega) (by omega) (HU.out.rd.low hbx hgw) (only_low HU.out.gr hbx (Nat.le_refl _))
  · obtain ⟨ia, hia, ja0, ja1, ja2⟩ := info_parts info_string
    have HIa := hide hia
    clear hia
    have hl3 : w.heap.size + 2 ≤ w3.heap.size := HT.out.Z.lt
    have hAA : Below w3.heap.size w3 (w3.alloc (.cells #[] 9)) := (Below.refl _ _).alloc (Nat.le_refl _) _
    obtain ⟨usk, hok, hsk⟩ := (HT.out.o1.below hAA HT.out.hn.leftK.lt).srcStrs
    have HE := hide (OwS.emptyL (f := strC) w3 lo (by omega) 9 1)
    have HOK := hide hok
    have HSK := hide hsk
    have HAA := hide hAA
    clear hok hsk hAA
    have b1 := HT.out.X.cell 1
    have lb := HT.out.X.lt
    have hnl6 : x.names.length ≤ 1000000 := by have := x.bulk_eq; unfold bulkStrs at this; omega
    go_wp2_with (first
      | (at_builtin; refine wpl_app rfl _ _ 23 rfl ia _ 16 Tryz.underlying23 HIa.out ja0 ja1 ja2 rfl (by decide) strC_len rfl HE.out x.names HOK.out (New.nil _ _) (fun q _ hq => by cases hq) _ _ _ rfl rfl HSK.out (by simp; omega) (by decide) (by rw [World.size_alloc]; omega) ?_; intro A5 n5 c5 w5 hn5 hown5 hgb5; have hgb6 : GB (w3.alloc (.cells #[] 9)) w5 (.slice (some ⟨w3.heap.size, 0, none⟩) 0 0) (.slice A5 n5 c5) := hgb5; have hown6 : OwS w5 lo 9 1 strC (.slice A5 n5 c5) x.names usk [] := hown5; have HB5 := hide (HAA.out.trans (hgb6.toBelow (B := w3.heap.size) (by rw [World.size_alloc]; omega) (fun q e => by (have e2 : w3.heap.size = q := by simpa [Value.ownBlock] using e); omega))); have HGE5 := hide (fun q (e : (Value.slice A5 n5 c5).ownBlock = some q) => show w3.heap.size ≤ q from hgb6.from (B := w3.heap.size) (by rw [World.size_alloc]; omega) (fun q e => by (have e2 : w3.heap.size = q := by simpa [Value.ownBlock] using e); omega) q e); have HS5 := hide (HT.out.tick (grownBy_below HB5.out (some g)) (HT.out.rd.below HB5.out) hgl hlo); have HO5 := hide hown6; have HN5 := hide hn5; clear hown5 hown6 hgb5 hgb6 hn5)
      | fail)
    have hA6 : Below w5.heap.size w5 (w5.alloc (.cells #[.string ⟨#[97]⟩, .string ⟨#[122]⟩, .string ⟨#[65]⟩] 9)) := (Below.refl _ _).alloc (Nat.le_refl _) _
    have HS6 := hide (HS5.out.tick (grownBy_below hA6 (some g)) (HS5.out.rd.below hA6) hgl hlo)
    have HO6 := hide (HO5.out.alloc (.cells #[.string ⟨#[97]⟩, .string ⟨#[122]⟩, .string ⟨#[65]⟩] 9))
    have hz5 : w.heap.size + 1 < w5.heap.size := HS5.out.Z.lt
    have HOF := hide (of_any HS6.out.rd (by omega) [⟨#[97]⟩, ⟨#[122]⟩, ⟨#[65]⟩] w5.heap.size 3 (by decide) (by decide) (by omega) (by rw [World.size_alloc]; omega) (fun j hj => by
      have h := (Row.new w5 9 [.string ⟨#[97]⟩, .string ⟨#[122]⟩, .string ⟨#[65]⟩]).cell j
      refine h.trans ?_
      have hj3 : j < 3 := hj
      obtain rfl | rfl | rfl : j = 0 ∨ j = 1 ∨ j = 2 := by omega
      all_goals rfl))
    have hsz6 : w3.heap.size ≤ (w5.alloc (.cells #[.string ⟨#[97]⟩, .string ⟨#[122]⟩, .string ⟨#[65]⟩] 9)).heap.size := by have := HB5.out.size; rw [World.size_alloc]; omega
    clear hA6 b1 lb
    go_wp2_with fail
    refine HOF.out.mono ?_
    rintro e w7 ⟨s7, hs7, rfl, hr7, hg7⟩
    have hs1 : s7.size ≤ 1 := by
      simp only [List.mem_cons, List.not_mem_nil, or_false] at hs7
      rcases hs7 with rfl | rfl | rfl <;> decide
    have HS7 := hide (HS6.out.tick hg7 hr7 hgl hlo)
    have HO7 := hide ((HO6.out.kept hg7 (fun q e => by injection e with e; subst e; exact ⟨HO6.out.nlow hgl, HO6.out.low hgl⟩)).alloc (.cells #[.string s7] 9))
    have HXS := hide (fun W => show OwC W ([s7].flatMap strC) [.string s7] [] from ⟨[], [], ⟨rfl, show s7.size ≤ maxLen by (unfold maxLen; omega), rfl⟩, rfl, rfl⟩)
    have hsz7 : w3.heap.size ≤ w7.heap.size := Nat.le_trans hsz6 hg7.size
    have HSA := hide (show lo ≤ (w7.alloc (.cells #[.string s7] 9)).heap.size from by rw [World.size_alloc]; omega)
    clear hs7 hr7 hg7 HOF HS6 HO6 HS5 HO5 HE HOK HSK
    go_wp2_with (first
      | (at_builtin; refine wpl_app rfl _ _ 23 rfl ia _ 16 Tryz.underlying23 HIa.out ja0 ja1 ja2 rfl (by decide) strC_len rfl HO7.out [s7] (HXS.out _) (New.nil _ _) (fun q _ hq => by cases hq) _ 1 1 rfl rfl (SrcAt.new w7 _ _ _ _) (by simp; omega) (by decide) HSA.out ?_; intro A9 n9 c9 w9 hn9 hown9 hgb9; have hgba : GB (w7.alloc (.cells #[.string s7] 9)) w9 (.slice A5 n5 c5) (.slice A9 n9 c9) := hgb9; have hown : OwS w9 lo 9 1 strC (.slice A9 n9 c9) (x.names ++ [s7]) (usk ++ [.string s7]) [] := hown9; have HB9 := hide (((Below.refl w3.heap.size w7).alloc hsz7 (.cells #[.string s7] 9)).trans (hgba.toBelow (B := w3.heap.size) (Nat.le_trans hsz7 (by rw [World.size_alloc]; omega)) HGE5.out)); have HGE9 := hide (hgba.from (B := w3.heap.size) (Nat.le_trans hsz7 (by rw [World.size_alloc]; omega)) HGE5.out); have HS9 := hide (HS7.out.low9 HB9.out hl3 hf hgw hgl hlo); have HO9 := hide hown; have HN9 := hide hn9; clear hown9 hgb9 hgba hown hn9; have b0 := HS9.out.X.cell 0; have b1 := HS9.out.X.cell 1; have b2 := HS9.out.X.cell 2; have a1 := HS9.out.X.frozen 1; have lb := HS9.out.X.lt; have z0 := HS9.out.Z.cell 0; have y0 := HS9.out.Z.frozen 0; have z1 := HS9.out.Z.cell 1; have y1 := HS9.out.Z.frozen 1; have z2 := HS9.out.Z.cell 2; have y2 := HS9.out.Z.frozen 2; have lz := HS9.out.Z.lt)
      | fail)
    obtain rfl : n9 = (x.names ++ [s7]).length := by rw [HN9.out]; simp
    obtain ⟨fq, hofq, hnfq, hsfq⟩ := sp_names_fin (s := x.sort) (ks := x.kids) w0 HS9.out.o2 HS9.out.hn.rightK HO9.out (fun q hq e => by
      have h1 := hf q (List.mem_append.2 (.inr hq))
      have := HGE9.out q e
      omega)
    have hsf : ∀ b ∈ fq, b ∈ f1 ++ f2 ∨ w.heap.size + 2 ≤ b := fun b hb => by
      rcases hsfq b hb with h | h
      · have := HGE9.out b h; exact .inr (by omega)
      · exact .inl (List.mem_append.2 (.inr h))
    have hgr : w9.grownBy (w9.setCell ⟨w.heap.size, 1, none⟩ (.slice A9 (x.names ++ [s7]).length c9)) (some w.heap.size) := grownBy_setCell w9 ⟨w.heap.size, 1, none⟩ _
    have hbx : Below w.heap.size w9 (w9.setCell ⟨w.heap.size, 1, none⟩ (.slice A9 (x.names ++ [s7]).length c9)) := below_of_grown hgr (Nat.le_refl _) HS9.out.gr.size
    refine bodyPost_ret (ret_row rfl _ _ (w.heap.size + 1) 38 [.int .i64 x.sort, .slice A9 (x.names ++ [s7]).length c9, .slice A2 x.kids.length c2] ((HS9.out.Z.far (p := ⟨w.heap.size, 1, none⟩) (by simp) _).setAll [.int .i64 x.sort, .slice A9 (x.names ++ [s7]).length c9, .slice A2 x.kids.length c2] rfl) _ rfl Tryz.underlying38 rfl (by kernel_rfl)) rfl ?_
    have hnq : ∀ q, some w.heap.size = some q → q ∉ fq := fun q e hm => by
      injection e with e
      subst e
      rcases hsf _ hm with h | h
      · have := hf _ h; omega
      · omega
    exact HEND.out _ (.mk x.sort (x.names ++ [s7]) x.kids) _ fq (k1 + 1 + 1) (hofq.grown' hgr hnfq.lt hnq) (hnfq.grown hgr hnq) hsf (by rw [Kind.bulk_eq, x.bulk_eq]; simp only [Kind.names, Kind.kids, bulkStrs_snoc]; omega) (by omega) (HS9.out.rd.low hbx hgw) (only_low HS9.out.gr hbx (Nat.le_refl _))
  · obtain ⟨ib, hib, jb0, jb1, jb2⟩ := info_parts info_Kind'
    have HIb := hide hib
    clear hib
    have hl3 : w.heap.size + 2 ≤ w3.heap.size := HT.out.Z.lt
    have hAA : Below w3.heap.size w3 (w3.alloc (.cells #[] 38)) := (Below.refl _ _).alloc (Nat.le_refl _) _
    obtain ⟨usk, fk, hok, hsk, hsub, hnk⟩ := (HT.out.o2.below hAA HT.out.hn.rightK.lt).srcNew (HT.out.hn.rightK.alloc _)
    have HE := hide (OwS.emptyL (f := Kind.cells) w3 lo (by omega) 38 3)
    have HNO := hide (show ∀ q, (Value.slice (some ⟨w3.heap.size, 0, none⟩) 0 0).ownBlock = some q → q ∉ fk from fun q e hm => by
      have e2 : w3.heap.size = q := by simpa [Value.ownBlock] using e
      have := HT.out.hn.rightK.lt _ (hsub hm)
      omega)
    have HOK := hide hok
    have HSK := hide hsk
    have HSUB := hide hsub
    have HNK := hide (show New (w3.alloc (.cells #[] 38)) ([] ++ fk) lo from hnk)
    have HAA := hide hAA
    clear hok hsk hnk hAA hsub
    have b2 := HT.out.X.cell 2
    have lb := HT.out.X.lt
    have hkl6 : x.kids.length ≤ 1000000 := by have := x.bulk_eq; omega
    have HLF := hide (fun W => show OwC W ([Kind.mk 1 [] []].flatMap Kind.cells) [.int .i64 1, .slice none 0 0, .slice none 0 0] [] from by rw [List.flatMap_singleton]; exact kleaf_ow W 1 (by decide))
    go_wp2_with (first
      | (at_builtin; refine wpl_app rfl _ _ 36 rfl ib _ 56 Tryz.underlying36 HIb.out jb0 jb1 jb2 rfl (by decide) Kind.cells_len rfl HOA.out [Kind.mk 1 [] []] (HLF.out _) HNA.out (fun q _ hq => by cases hq) _ 1 1 rfl rfl (SrcAt.new w5 _ _ _ _) (by simp; omega) (by decide) HSA.out ?_; intro A9 n9 c9 w9 hn9 hown9 hgb9; have hgba : GB (w5.alloc (.cells #[.int .i64 1, .slice none 0 0, .slice none 0 0] 38)) w9 (.slice A5 n5 c5) (.slice A9 n9 c9) := hgb9; have hown : OwS w9 lo 38 3 Kind.cells (.slice A9 n9 c9) (x.kids ++ [Kind.mk 1 [] []]) (usk ++ [.int .i64 1, .slice none 0 0, .slice none 0 0]) (fk ++ []) := hown9; have HB9 := hide (((Below.refl w3.heap.size w5).alloc (HB5.out.size) (.cells #[.int .i64 1, .slice none 0 0, .slice none 0 0] 38)).trans (hgba.toBelow (B := w3.heap.size) (Nat.le_trans HB5.out.size (by rw [World.size_alloc]; omega)) HGE5.out)); have HGE9 := hide (hgba.from (B := w3.heap.size) (Nat.le_trans HB5.out.size (by rw [World.size_alloc]; omega)) HGE5.out); have HS9 := hide (HT.out.tick (grownBy_below (HB5.out.trans HB9.out) (some g)) (HT.out.rd.below (HB5.out.trans HB9.out)) hgl hlo); have HO9 := hide hown; have HN9 := hide hn9; clear hown9 hgb9 hgba hown hn9; have b0 := HS9.out.X.cell 0; have b1 := HS9.out.X.cell 1; have b2 := HS9.out.X.cell 2; have a2 := HS9.out.X.frozen 2; have lb := HS9.out.X.lt; have z0 := HS9.out.Z.cell 0; have y0 := HS9.out.Z.frozen 0; have z1 := HS9.out.Z.cell 1; have y1 := HS9.out.Z.frozen 1; have z2 := HS9.out.Z.cell 2; have y2 := HS9.out.Z.frozen 2; have lz := HS9.out.Z.lt)
      | (at_builtin; refine wpl_app rfl _ _ 36 rfl ib _ 56 Tryz.underlying36 HIb.out jb0 jb1 jb2 rfl (by decide) Kind.cells_len rfl HE.out x.kids HOK.out HNK.out HNO.out _ _ _ rfl rfl HSK.out (by simp; omega) (by decide) (by rw [World.size_alloc]; omega) ?_; intro A5 n5 c5 w5 hn5 hown5 hgb5; have hgb6 : GB (w3.alloc (.cells #[] 38)) w5 (.slice (some ⟨w3.heap.size, 0, none⟩) 0 0) (.slice A5 n5 c5) := hgb5; have hown6 : OwS w5 lo 38 3 Kind.cells (.slice A5 n5 c5) x.kids usk fk := hown5; have HB5 := hide (HAA.out.trans (hgb6.toBelow (B := w3.heap.size) (by rw [World.size_alloc]; omega) (fun q e => by (have e2 : w3.heap.size = q := by simpa [Value.ownBlock] using e); omega))); have HGE5 := hide (fun q (e : (Value.slice A5 n5 c5).ownBlock = some q) => show w3.heap.size ≤ q from hgb6.from (B := w3.heap.size) (by rw [World.size_alloc]; omega) (fun q e => by (have e2 : w3.heap.size = q := by simpa [Value.ownBlock] using e); omega) q e); have HS5 := hide (HT.out.tick (grownBy_below HB5.out (some g)) (HT.out.rd.below HB5.out) hgl hlo); have HO5 := hide hown6; have HN5 := hide hn5; clear hown5 hown6 hgb5 hgb6 hn5; have HOA := hide (HO5.out.alloc (.cells #[.int .i64 1, .slice none 0 0, .slice none 0 0] 38)); have HNA := hide (show New (w5.alloc (.cells #[.int .i64 1, .slice none 0 0, .slice none 0 0] 38)) (fk ++ []) lo from by (rw [List.append_nil]; exact HO5.out.new.alloc _)); have HSA := hide (show lo ≤ (w5.alloc (.cells #[.int .i64 1, .slice none 0 0, .slice none 0 0] 38)).heap.size from by (have := HB5.out.size; rw [World.size_alloc]; omega)))
      | fail)
    obtain rfl : n9 = (x.kids ++ [Kind.mk 1 [] []]).length := by rw [HN9.out]; simp
    obtain ⟨fq, hofq, hnfq, hsfq⟩ := sp_kids_fin (s := x.sort) (ns := x.names) w0 HS9.out.o1 HS9.out.hn.leftK HO9.out (fun q hq => by
      have h1 := hf q (List.mem_append.2 (.inl hq))
      refine ⟨fun e => by have := HGE9.out q e; omega, fun hm => ?_⟩
      rw [List.append_nil] at hm
      exact (List.nodup_append.1 HT.out.hn.nd).2.2 q hq q (HSUB.out hm) rfl)
    have hsf : ∀ b ∈ fq, b ∈ f1 ++ f2 ∨ w.heap.size + 2 ≤ b := fun b hb => by
      rcases hsfq b hb with h | h | h
      · exact .inl (List.mem_append.2 (.inl h))
      · have := HGE9.out b h; exact .inr (by omega)
      · rw [List.append_nil] at h; exact .inl (List.mem_append.2 (.inr (HSUB.out h)))
    have hgr : w9.grownBy (w9.setCell ⟨w.heap.size, 2, none⟩ (.slice A9 (x.kids ++ [Kind.mk 1 [] []]).length c9)) (some w.heap.size) := grownBy_setCell w9 ⟨w.heap.size, 2, none⟩ _
    have hbx : Below w.heap.size w9 (w9.setCell ⟨w.heap.size, 2, none⟩ (.slice A9 (x.kids ++ [Kind.mk 1 [] []]).length c9)) := below_of_grown hgr (Nat.le_refl _) HS9.out.gr.size
    refine bodyPost_ret (ret_row rfl _ _ (w.heap.size + 1) 38 [.int .i64 x.sort, .slice A1 x.names.length c1, .slice A9 (x.kids ++ [Kind.mk 1 [] []]).length c9] ((HS9.out.Z.far (p := ⟨w.heap.size, 2, none⟩) (by simp) _).setAll [.int .i64 x.sort, .slice A1 x.names.length c1, .slice A9 (x.kids ++ [Kind.mk 1 [] []]).length c9] rfl) _ rfl Tryz.underlying38 rfl (by kernel_rfl)) rfl ?_
    have hnq : ∀ q, some w.heap.size = some q → q ∉ fq := fun q e hm => by
      injection e with e
      subst e
      rcases hsf _ hm with h | h
      · have := hf _ h; omega
      · omega
    exact HEND.out _ (.mk x.sort x.names (x.kids ++ [Kind.mk 1 [] []])) _ fq (k1 + 1) (hofq.grown' hgr hnfq.lt hnq) (hnfq.grown hgr hnq) hsf (by rw [Kind.bulk_eq, x.bulk_eq]; simp only [Kind.names, Kind.kids, Kind.bulkS_append, Kind.bulkS, Kind.bulk_leaf, List.length_append, List.length_singleton]; omega) (by omega) (HS9.out.rd.low hbx hgw) (only_low HS9.out.gr hbx (Nat.le_refl _))
  · obtain ⟨ia, hia, ja0, ja1, ja2⟩ := info_parts info_string
    have HIa := hide hia
    obtain ⟨ib, hib, jb0, jb1, jb2⟩ := info_parts info_Kind'
    have HIb := hide hib
    clear hia hib
    have b0 := HT.out.X.cell 0
    have b1 := HT.out.X.cell 1
    have b2 := HT.out.X.cell 2
    have a0 := HT.out.X.frozen 0
    have a1 := HT.out.X.frozen 1
    have a2 := HT.out.X.frozen 2
    have lb := HT.out.X.lt
    have hl3 : w.heap.size + 2 ≤ w3.heap.size := HT.out.Z.lt
    go_upto_region 21 with fail
    generalize hw4 : World.setCell (World.setCell (World.setCell w3 _ _) _ _) _ _ = w4
    have hgr : w3.grownBy w4 (some w.heap.size) := by rw [← hw4]; exact setN_grown [.int .i64 5, .slice none 0 0, .slice none 0 0] 0 (grown_refl w3 (some w.heap.size))
    have HX4 := hide (show Row w4 w.heap.size 38 [.int .i64 5, .slice none 0 0, .slice none 0 0] from by rw [← hw4]; exact HT.out.X.setAll [.int .i64 5, .slice none 0 0, .slice none 0 0] rfl)
    have hbx : Below w.heap.size w3 w4 := below_of_grown hgr (Nat.le_refl _) HT.out.gr.size
    have HZ4 := hide (HT.out.Z.grown hgr (fun e => by injection e with e; omega))
    have HR4 := hide (HT.out.rd.low hbx hgw)
    have HG4 := hide (only_low HT.out.gr hbx (Nat.le_refl _))
    have hs4 : w3.heap.size ≤ w4.heap.size := hgr.size
    clear hw4 hgr hbx HT b0 b1 b2 a0 a1 a2 lb
    obtain ⟨B, hB⟩ : ∃ B, B = w3.heap.size := ⟨_, rfl⟩
    rw [← hB] at hl3 hs4
    clear hB
    have HF4 := hide (show SpF g L w B (k1 + 1) w4 0 (.slice none 0 0) [] [] (.slice none 0 0) [] [] (k1 + 1) from
      ⟨⟨HX4.out, OwS.nil _ _ _ _ _, OwS.nil _ _ _ _ _, by omega, fun g h => (by cases h), fun g h => (by cases h), fun g h => (by cases h), fun g h => (by cases h)⟩,
        HR4.out, rfl, rfl, by simp [bulkStrs, bulkStr], rfl, by omega, HG4.out, HZ4.out, hs4, by omega⟩)
    clear HX4 HR4 HG4 HZ4 hs4
    go_wp2_with fail
    go_loopw [7] (fun i wr => ∃ (j : Nat) (ns : List ByteArray) (ks : List Kind) (B1 : Option Addr) (m1 d1 : Nat) (us1 : List Value) (B2 : Option Addr) (m2 d2 : Nat) (us2 : List Value) (k' : Nat), i = .int .i64 (j : Int) ∧ SpF g L w B (k1 + 1) wr j (.slice B1 m1 d1) ns us1 (.slice B2 m2 d2) ks us2 k') (fun i _ => 40 - (intOf i).toNat)
    case atStart => exact ⟨0, [], [], none, 0, 0, [], none, 0, 0, [], k1 + 1, rfl, HF4.out⟩
    case round =>
      obtain ⟨j, ns, ks, B1, m1, d1, us1, B2, m2, d2, us2, k', rfl, hF⟩ := hrel
      obtain ⟨E1, e1, hv1⟩ := hF.two.one.form
      obtain ⟨E2, e2, hv2⟩ := hF.two.two.form
      injection hv1 with hv1a hv1b hv1c
      injection hv2 with hv2a hv2b hv2c
      subst hv1a hv1b hv1c hv2a hv2b hv2c
      have hpk := hF.pk
      have hj40 := hF.hj
      have HP := hide (pick_any hF.rd (n := 2) (by omega) (by omega) (by omega))
      have HF := hide hF
      clear hF HF4
      go_wp2_with fail
      refine HP.out.mono ?_
      rintro e w5 ⟨r, rfl, hr2, h5, hg5⟩
      have HF5 := hide (HF.out.tick hg5 h5 hgw)
      clear h5 hg5 HP HF
      have hwr : IntKind.i64.wrap (39 + (r : Int)) = 39 + (r : Int) := wrapI _ (by omega) (by omega)
      have hwj : IntKind.i64.wrap (100 + (j : Int)) = 100 + (j : Int) := wrapI _ (by omega) (by omega)
      by_cases hjr : j < 39 + r
      · have hji : (j : Int) < 39 + (r : Int) := by omega
        have HDEC := hide (fun W => specDec_out j hj40 W)
        have t1 : w5.cell? ⟨w.heap.size, 1, none⟩ = some (.slice B1 ns.length d1) := HF5.out.two.box.cell 1
        have lb := HF5.out.two.box.lt
        have hszc : B ≤ w5.heap.size := HF5.out.sz
        have HNL := hide (show ns.length ≤ 40 from by rw [HF5.out.hn]; exact hj40)
        have HKL := hide (show ks.length ≤ 40 from by rw [HF5.out.hk]; exact hj40)
        go_upto_region 24 with fail
        go_cut [] from 93 to 102 (fun wx => ∃ (C1 : Option Addr) (p1 q1 : Nat) (us1' : List Value) (nm : ByteArray), nm.size ≤ 21 ∧ SpN g L w B wx (.slice C1 p1 q1) (ns ++ [nm]) us1' (.slice B2 ks.length d2) ks us2 (k' + 1))
        case first =>
          go_region_law (first | (refine step_app (by rfl) _ _ 23 (by rfl) ia _ 16 Tryz.underlying23 HIa.out ja0 ja1 ja2 rfl (by decide) strC_len (by rfl) HT8.out.one [⟨#[110]⟩ ++ ds] HXO.out (by exact New.nil _ _) (fun q _ hq => by cases hq) _ 1 1 (by rfl) rfl (SrcAt.new w7 _ _ _ _) HLB.out (by decide) HSB.out ?_; intro A' n' c' w9 hn9 hown9 hgb9; have HG9 := hide hgb9; have HN9 := hide hown9; have r9 := HT8.out.row1 hgb9; have q9 : w9.cell? ⟨w.heap.size, 1, none⟩ = some (.slice B1 ns.length d1) := r9.cell 1; have f9 : w9.frozen? ⟨w.heap.size, 1, none⟩ = false := r9.frozen 1; have HNN9 := hide hn9; clear hown9 hgb9 r9 hn9) | (go_simp; go_at_call 83; have hh := HDEC.out w5.drew; refine hh.mono ?_; clear hh; rintro e w7 ⟨ds, rfl, hds, hb7⟩; have n1 : ¬ (9223372036854775807 < 1 + ds.size) := (by omega); have hb57 : Below w5.heap.size w5 w7 := (below_drewN (Below.refl _ w5) 1).trans hb7; have HB7 := hide hb57; have HDS := hide hds; have HT7 := hide (HF5.out.two.below hb57); have t1c : w7.cell? ⟨w.heap.size, 1, none⟩ = some (.slice B1 ns.length d1) := HT7.out.box.cell 1; have lt7 := HT7.out.box.lt; have HT8 := hide (HT7.out.alloc (.cells #[.string (⟨#[110]⟩ ++ ds)] 9)); have HXO := hide (show OwC (w7.alloc (.cells #[.string (⟨#[110]⟩ ++ ds)] 9)) ([⟨#[110]⟩ ++ ds].flatMap strC) [.string (⟨#[110]⟩ ++ ds)] [] from ⟨[], [], ⟨rfl, show (⟨#[110]⟩ ++ ds : ByteArray).size ≤ maxLen by (have e1 : (⟨#[110]⟩ : ByteArray).size = 1 := rfl; rw [ByteArray.size_append]; unfold maxLen; omega), rfl⟩, rfl, rfl⟩); have HLB := hide (show ns.length + 1 ≤ 1099511627776 from by (have := HNL.out; omega)); have HSB := hide (show B ≤ (w7.alloc (.cells #[.string (⟨#[110]⟩ ++ ds)] 9)).heap.size from by (have := hb57.size; rw [World.size_alloc]; omega)); clear hds hb7 hb57))
          all_goals
            have HTP := hide (HT8.out.put1 HG9.out HN9.out 1 rfl (fun g hg => by cases hg))
            have hfr : ∀ u, Below w.heap.size w5 (w9.setCell ⟨w.heap.size, 1, none⟩ u) := fun u => ((HB7.out.mono (Nat.le_of_lt lb)).alloc (Nat.le_trans (Nat.le_of_lt lb) HB7.out.size) _).trans (HT8.out.frame1 HG9.out HSB.out 1 u (Nat.le_refl _))
            go_wp2_with fail
            go_meet
            exact ⟨A', n', c', us1 ++ [.string (⟨#[110]⟩ ++ ds)], ⟨#[110]⟩ ++ ds, (by have := HDS.out; have e1 : (⟨#[110]⟩ : ByteArray).size = 1 := rfl; rw [ByteArray.size_append]; omega), HTP.out, HF5.out.rd.low (hfr _) hgw, only_low HF5.out.gr (hfr _) (Nat.le_refl _), Row.far (p := ⟨w.heap.size, 1, none⟩) (HG9.out.row ((HF5.out.z.below HB7.out HF5.out.z.lt).alloc _) (HT8.out.one.low (by omega))) (by simp) _, Nat.le_trans hszc (hfr (.slice A' n' c')).size⟩
        case rest =>
          clear t1 lb hszc
          obtain ⟨w6, rfl⟩ : ∃ W, W = wc := ⟨_, rfl⟩
          obtain ⟨C1, p1, q1, us1', nm, hnm, hN⟩ := hcut
          have HN := hide hN
          have b2 : w6.cell? ⟨w.heap.size, 2, none⟩ = some (.slice B2 ks.length d2) := hN.two.box.cell 2
          have lb6 := hN.two.box.lt
          have HT8 := hide (hN.two.alloc (.cells #[.int .i64 1, .slice none 0 0, .slice none 0 0] 38))
          have HLF := hide (show OwC (w6.alloc (.cells #[.int .i64 1, .slice none 0 0, .slice none 0 0] 38)) ([Kind.mk 1 [] []].flatMap Kind.cells) [.int .i64 1, .slice none 0 0, .slice none 0 0] [] from by rw [List.flatMap_singleton]; exact kleaf_ow _ 1 (by decide))
          have HSB := hide (show B ≤ (w6.alloc (.cells #[.int .i64 1, .slice none 0 0, .slice none 0 0] 38)).heap.size from by have := hN.sz; rw [World.size_alloc]; omega)
          have hkl9 : ks.length + 1 ≤ 1099511627776 := by have := HKL.out; omega
          clear hN
          go_wp2_with (first | (at_builtin; refine wpl_app rfl _ _ 36 rfl ib _ 56 Tryz.underlying36 HIb.out jb0 jb1 jb2 rfl (by decide) Kind.cells_len rfl HT8.out.two [Kind.mk 1 [] []] HLF.out (by exact New.nil _ _) (fun q _ hq => by cases hq) _ 1 1 rfl rfl (SrcAt.new w6 _ _ _ _) hkl9 (by decide) HSB.out ?_; intro A9 n9 c9 w9 hn9 hown9 hgb9; have HG9 := hide hgb9; have HN9 := hide hown9; have r9 := HT8.out.row2 hgb9; have q9 : w9.cell? ⟨w.heap.size, 2, none⟩ = some (.slice B2 ks.length d2) := r9.cell 2; have f9 : w9.frozen? ⟨w.heap.size, 2, none⟩ = false := r9.frozen 2; have l9 := r9.lt; clear hown9 hgb9 r9 hn9) | fail)
          go_roundw
          case rel =>
            have hbb : Below w.heap.size w6 (w9.setCell ⟨w.heap.size, 2, none⟩ (.slice A9 n9 c9)) := ((Below.refl w.heap.size w6).alloc (Nat.le_of_lt lb6) _).trans (HT8.out.frame2 HG9.out HSB.out 2 _ (Nat.le_refl _))
            have hgoal : SpF g L w B (k1 + 1) (w9.setCell ⟨w.heap.size, 2, none⟩ (.slice A9 n9 c9)) (j + 1) (.slice C1 p1 q1) (ns ++ [nm]) us1' (.slice A9 n9 c9) (ks ++ [Kind.mk 1 [] []]) (us2 ++ [.int .i64 1, .slice none 0 0, .slice none 0 0]) (k' + 1) :=
              ⟨HT8.out.put2 HG9.out HN9.out 2 rfl (fun g hg => by cases hg), HN.out.rd.low hbb hgw, by rw [List.length_append, HF5.out.hn]; rfl, by rw [List.length_append, HF5.out.hk]; rfl,
                by (have := HF5.out.bn; rw [bulkStrs_snoc]; omega), by rw [kbulkS_snoc, HF5.out.bk]; rfl, by omega, only_low HN.out.gr hbb (Nat.le_refl _),
                Row.far (p := ⟨w.heap.size, 2, none⟩) (HG9.out.row (HN.out.z.alloc _) (HT8.out.two.low (by omega))) (by simp) _, Nat.le_trans HN.out.sz hbb.size, by omega⟩
            exact ⟨j + 1, _, _, C1, p1, q1, us1', A9, n9, c9, _, _, by go_num, hgoal⟩
          case measure => simp [intOf]; omega
      · have hji : ¬ ((j : Int) < 39 + (r : Int)) := by omega
        have b0 : w5.cell? ⟨w.heap.size, 0, none⟩ = some (.int .i64 5) := HF5.out.two.box.cell 0
        have b1 : w5.cell? ⟨w.heap.size, 1, none⟩ = some (.slice B1 ns.length d1) := HF5.out.two.box.cell 1
        have b2 : w5.cell? ⟨w.heap.size, 2, none⟩ = some (.slice B2 ks.length d2) := HF5.out.two.box.cell 2
        have lb := HF5.out.two.box.lt
        have z0 := HF5.out.z.cell 0
        have y0 := HF5.out.z.frozen 0
        have z1 := HF5.out.z.cell 1
        have y1 := HF5.out.z.frozen 1
        have z2 := HF5.out.z.cell 2
        have y2 := HF5.out.z.frozen 2
        have lz := HF5.out.z.lt
        go_wp2
        obtain ⟨fq, ho, hnw⟩ := kform_owC HF5.out.two (by decide)
        refine bodyPost_ret (ret_row rfl _ _ (w.heap.size + 1) 38 (kindMk 5 (.slice B1 ns.length d1) (.slice B2 ks.length d2)) (HF5.out.z.setAll (kindMk 5 (.slice B1 ns.length d1) (.slice B2 ks.length d2)) rfl) _ rfl Tryz.underlying38 rfl (by kernel_rfl)) rfl ?_
        exact HEND.out w5 (.mk 5 ns ks) _ fq (k' + 1) ho (hnw.mono (by omega)) (fun b hb => .inr (by have := (hnw.fr b hb).1; omega)) (by rw [Kind.bulk_eq]; simp only [Kind.names, Kind.kids]; have h1 := HF5.out.bn; have h2 := HF5.out.bk; have h3 := HF5.out.hk; omega) (by omega) HF5.out.rd HF5.out.gr
  · have b0 := HT.out.X.cell 0
    have b1 := HT.out.X.cell 1
    have b2 := HT.out.X.cell 2
    have a0 := HT.out.X.frozen 0
    have a1 := HT.out.X.frozen 1
    have a2 := HT.out.X.frozen 2
    have lb := HT.out.X.lt
    have hl3 : w.heap.size + 2 ≤ w3.heap.size := HT.out.Z.lt
    go_upto_region 9 with fail
    generalize hw4 : World.setCell (World.setCell (World.setCell w3 _ _) _ _) _ _ = w4
    have hgr : w3.grownBy w4 (some w.heap.size) := by rw [← hw4]; exact setN_grown [.int .i64 3, .slice none 0 0, .slice none 0 0] 0 (grown_refl w3 (some w.heap.size))
    have HX4 := hide (show Row w4 w.heap.size 38 [.int .i64 3, .slice none 0 0, .slice none 0 0] from by rw [← hw4]; exact HT.out.X.setAll [.int .i64 3, .slice none 0 0, .slice none 0 0] rfl)
    have hbx : Below w.heap.size w3 w4 := below_of_grown hgr (Nat.le_refl _) HT.out.gr.size
    have HZ4 := hide (HT.out.Z.grown hgr (fun e => by injection e with e; omega))
    have HR4 := hide (HT.out.rd.low hbx hgw)
    have HG4 := hide (only_low HT.out.gr hbx (Nat.le_refl _))
    have hs4 : w3.heap.size ≤ w4.heap.size := hgr.size
    clear hw4 hgr hbx HT b0 b1 b2 a0 a1 a2 lb
    have HP := hide (pick_any HR4.out (n := 2) (by omega) (by omega) (by omega))
    go_wp2_with fail
    refine HP.out.mono ?_
    rintro e w5 ⟨q, rfl, hq2, h5, hg5⟩
    obtain ⟨B, hB⟩ : ∃ B, B = w3.heap.size := ⟨_, rfl⟩
    rw [← hB] at hl3 hs4
    clear hB
    have HF4 := hide (show SpW g L w B (k1 + 1 + 1) w5 (5 + q) (.mk 3 [] []) [.int .i64 3, .slice none 0 0, .slice none 0 0] [] from
      ⟨HX4.out.grown hg5 (fun e => by injection e with e; omega), kleaf_ow _ 3 (by decide), New.nil _ _, HZ4.out.grown hg5 (fun e => by injection e with e; omega), h5, only_trans HG4.out hg5, by (show 0 + (5 + q) ≤ 6; omega), Nat.le_trans hs4 hg5.size⟩)
    have hwq : IntKind.i64.wrap (5 + (q : Int)) = 5 + (q : Int) := wrapI _ (by omega) (by omega)
    clear HX4 HR4 HG4 HZ4 hs4 h5 hg5 HP
    go_wp2_with fail
    go_loopw [8] (fun i wr => ∃ (n : Nat) (y : Kind) (us : List Value) (fq : List Nat), i = .int .i64 (n : Int) ∧ SpW g L w B (k1 + 1 + 1) wr n y us fq) (fun i _ => (intOf i).toNat)
    case atStart => exact ⟨5 + q, _, _, _, by go_num, HF4.out⟩
    case round =>
      obtain ⟨n, y, us, fq, rfl, hW⟩ := hrel
      obtain ⟨B1, d1, B2, d2, p1, p2, rfl, wy, -, -, -⟩ := hW.ow.oKind
      have HW := hide hW
      have b0 := hW.X.cell 0
      have b1 := hW.X.cell 1
      have b2 := hW.X.cell 2
      have a0 := hW.X.frozen 0
      have a1 := hW.X.frozen 1
      have a2 := hW.X.frozen 2
      have lb := hW.X.lt
      have hn6 : n ≤ 6 := by have := hW.bk; omega
      clear hW HF4
      by_cases h0 : n = 0
      · subst h0
        have z0 := HW.out.z.cell 0
        have y0 := HW.out.z.frozen 0
        have z1 := HW.out.z.cell 1
        have y1 := HW.out.z.frozen 1
        have z2 := HW.out.z.cell 2
        have y2 := HW.out.z.frozen 2
        have lz := HW.out.z.lt
        go_wp2
        refine bodyPost_ret (ret_row rfl _ _ (w.heap.size + 1) 38 [.int .i64 y.sort, .slice B1 y.names.length d1, .slice B2 y.kids.length d2] (HW.out.z.setAll [.int .i64 y.sort, .slice B1 y.names.length d1, .slice B2 y.kids.length d2] rfl) _ rfl Tryz.underlying38 rfl (by kernel_rfl)) rfl ?_
        exact HEND.out wr y _ fq (k1 + 1 + 1) HW.out.ow (HW.out.nw.mono (by omega)) (fun b hb => .inr (by have := (HW.out.nw.fr b hb).1; omega)) (by have := HW.out.bk; omega) (by omega) HW.out.rd HW.out.gr
      · obtain ⟨m, hm⟩ : ∃ m, n = m + 1 := ⟨n - 1, by omega⟩
        have hpos : (0 : Int) < (n : Int) := by omega
        have hw1 : IntKind.i64.wrap ((n : Int) - 1) = (m : Int) := by rw [wrapI _ (by omega) (by omega)]; omega
        have hm1 : (n : Int) - 1 = (m : Int) := by omega
        have htm : Int.tmod (n : Int) 2 = 0 ∨ Int.tmod (n : Int) 2 = 1 := by
          have e : Int.tmod (n : Int) 2 = ((n % 2 : Nat) : Int) := (Int.ofNat_tmod n 2).symm
          rw [e]
          omega
        have HM := hide hm
        have hlw : w.heap.size < wr.heap.size := lb
        have hr1 : ∀ c : Array Value, Below wr.heap.size wr ((wr.drew.alloc (.cells c 3)).alloc (.cells #[.int .i64 y.sort, .slice B1 y.names.length d1, .slice B2 y.kids.length d2] 38)) := fun c => ((below_drewN (Below.refl _ wr) 1).alloc (Nat.le_refl _) _).alloc (by simp) _
        have hr2 : ∀ c : Array Value, Below wr.heap.size wr ((wr.drew.alloc (.cells #[.int .i64 y.sort, .slice B1 y.names.length d1, .slice B2 y.kids.length d2] 38)).alloc (.cells c 3)) := fun c => ((below_drewN (Below.refl _ wr) 1).alloc (Nat.le_refl _) _).alloc (by simp) _
        have HR1 := hide hr1
        have HR2 := hide hr2
        clear hm hr1 hr2
        rcases htm with htm | htm
        all_goals
          go_upto_region 12 with fail
          go_region_law (fail)
          all_goals
            go_wp2
            go_roundw
            case rel =>
              first
                | exact ⟨m, _, _, _, rfl, SpW.wrapA HW.out HM.out (s := 4) (by decide) hgw hl3 (.cells #[.int .i64 4, .int .i64 6] 3)⟩
                | exact ⟨m, _, _, _, rfl, SpW.wrapA HW.out HM.out (s := 6) (by decide) hgw hl3 (.cells #[.int .i64 4, .int .i64 6] 3)⟩
                | exact ⟨m, _, _, _, rfl, SpW.wrapB HW.out HM.out (s := 4) (by decide) hgw hl3 (.cells #[.int .i64 4, .int .i64 6] 3)⟩
                | exact ⟨m, _, _, _, rfl, SpW.wrapB HW.out HM.out (s := 6) (by decide) hgw hl3 (.cells #[.int .i64 4, .int .i64 6] 3)⟩
            case measure => simp [intOf]; omega
end Go.Proofs.YtnaecdoeldoipaaGreatDoor
