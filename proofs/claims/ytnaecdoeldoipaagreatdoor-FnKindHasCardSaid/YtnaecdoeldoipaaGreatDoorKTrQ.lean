/-
  Reading trees from texts: the program's tree.
-/
import Derived.Deep.RegionWith
import Derived.Deep.DeepCutAuto
import Derived.Test.YtnaecdoeldoipaaGreatDoorKTrN
import Derived.Test.YtnaecdoeldoipaaGreatDoorKTrJ
set_option linter.unusedVariables false
set_option linter.unusedSimpArgs false
namespace Go.Proofs.YtnaecdoeldoipaaGreatDoor
open Go.ChangeShapes Go.WideShapes Go.ChangeAt Go.RowKit

/-- ahead of and behind the parts: the boxes -/
structure ST (w W : World) (g lv : Nat) (vs : List Value) (l : List UInt8) (fail : Bool) : Prop where
  kb : Row W (w.heap.size + 3) 26 vs
  rd : RdJ W g l fail
  rb : Row W w.heap.size 65 [.pointer (some ⟨g, 0, none⟩)]
  lb : Row W (w.heap.size + 1) 3 [.int .i64 (lv : Int)]
  zb : Row W (w.heap.size + 2) 26 [.int .i64 0, .int .i64 0, .string .empty, .slice none 0 0, .slice none 0 0]
  gr : w.grownBy W (some g)
section
variable {w W W' : World} {g lv : Nat} {vs vs' : List Value} {l l' : List UInt8} {fail fail' : Bool}
theorem ST.read (h : ST w W g lv vs l fail) (hgw : g < w.heap.size) (hg : W.grownBy W' (some g)) (hr : RdJ W' g l' fail') : ST w W' g lv vs l' fail' :=
  ⟨h.kb.grown hg (fun e => by injection e with e; omega), hr, h.rb.grown hg (fun e => by injection e with e; omega), h.lb.grown hg (fun e => by injection e with e; omega), h.zb.grown hg (fun e => by injection e with e; omega), only_trans h.gr hg⟩
theorem ST.put (h : ST w W g lv vs l fail) (hgw : g < w.heap.size) (hb : Below (w.heap.size + 3) W W') (hk : Row W' (w.heap.size + 3) 26 vs') : ST w W' g lv vs' l fail :=
  ⟨hk, h.rd.low hb (by omega), h.rb.below hb (by omega), h.lb.below hb (by omega), h.zb.below hb (by omega), only_lowR h.gr hb (by omega)⟩
theorem ST.below (h : ST w W g lv vs l fail) (hgw : g < w.heap.size) (hb : Below W.heap.size W W') : ST w W' g lv vs l fail :=
  h.put hgw (hb.mono (Nat.le_of_lt h.kb.lt)) (h.kb.below hb h.kb.lt)
theorem ST.drewN (h : ST w W g lv vs l fail) (hgw : g < w.heap.size) (n : Nat) : ST w (W.drewN n) g lv vs l fail := h.below hgw (below_drewN (Below.refl _ _) n)
theorem ST.drew (h : ST w W g lv vs l fail) (hgw : g < w.heap.size) : ST w W.drew g lv vs l fail := h.below hgw (Below.refl _ _).drew
/-- a cell of the tree's box is stored -/
theorem ST.set (h : ST w W g lv vs l fail) (hgw : g < w.heap.size) (j : Nat) (v : Value) : ST w (W.setCell ⟨w.heap.size + 3, j, none⟩ v) g lv (vs.set j v) l fail :=
  h.put hgw ((Below.refl _ _).setCell (p := ⟨w.heap.size + 3, j, none⟩) (Nat.le_refl _) v) (h.kb.set j v)
theorem ST.toKT {S : Int} (h : ST w W g lv (treeMkR S (.slice none 0 0) (.slice none 0 0)) l fail) : KT S w W g lv (.slice none 0 0) [] [] (.slice none 0 0) [] [] [] l fail :=
  ⟨⟨h.kb, OwS.nil _ _ _ _ _, OwS.nil _ _ _ _ _, Nat.lt_succ_self _, fun g h => (by cases h), fun g h => (by cases h), fun g h => (by cases h), fun g h => (by cases h)⟩, h.rd, h.rb, h.lb, h.zb, h.gr⟩
end
theorem fl_eqT {fl bad : Bool} {p : Prop} (h : fl = true ↔ (bad = true ∨ p)) (hp : ¬ p) : fl = bad := by cases fl <;> cases bad <;> simp_all
/-- what the tree's texts begin with, when they are quoted -/
theorem textTakenJ {l l1 l2 l3 : List UInt8} {x : ByteArray} {ok : Bool} (he : Eaten [34] l true l1) (hu : Until 34 l1 x l2) (h3 : Eaten [34] l2 ok l3) : TextTaken l false x l3 (!ok) := by
  intro y R hy _ e
  obtain ⟨_, rfl⟩ := he.yes (r := bl y ++ 34 :: R) e
  obtain ⟨h1, h2⟩ := hu.at hy rfl
  obtain ⟨rfl, rfl⟩ := h3.yes (r := R) (by rw [h2]; rfl)
  exact ⟨bl_inj h1, rfl, rfl⟩
theorem textPaidJ {lv : Nat} {l l1 l2 l3 : List UInt8} {x : ByteArray} {ok : Bool} (he : Eaten [34] l true l1) (hu : Until 34 l1 x l2) (h3 : Eaten [34] l2 ok l3) : Paid lv l (Tree.mk 2 0 x [] []).bulk l3 (!ok) := by
  rw [Tree.bulk_text]
  have h1 := he.lt
  have h2 := congrArg List.length hu.1
  rw [List.length_append, bl_len] at h2
  have h4 := h3.le
  simp only [List.length_cons, List.length_nil] at h1
  exact ⟨by omega, by omega, fun _ => by omega⟩
theorem numHeadJ {l : List UInt8} (h1 : ∀ r, l ≠ [91] ++ r) (h2 : ∀ r, l ≠ [123] ++ r) (h3 : ∀ r, l ≠ [126] ++ r) (h4 : ∀ r, l ≠ [63] ++ r) (h5 : ∀ r, l ≠ [34] ++ r) (h6 : ∀ r, l ≠ [121, 101, 115] ++ r) (h7 : ∀ r, l ≠ [110, 111] ++ r) {lv : Nat} {n : Int} {l' : List UInt8} {b' : Bool} (ht : NumTaken l false n l' b') : TakesT lv l false (.mk 1 n .empty [] []) l' b' := by
  intro k0 R hg hR hb e
  rcases Tree.read_cases hg l R e with ⟨z, rfl, hz, e⟩ | ⟨y, _, _, _, e⟩ | ⟨_, e⟩ | ⟨_, e⟩ | ⟨ks, _, _, e⟩ | ⟨ns, ks, _, _, _, e⟩ | ⟨_, e⟩ | ⟨y, _, _, e⟩
  · obtain ⟨rfl, h1, h2⟩ := ht z R hz hR hb e
    exact ⟨rfl, h1, h2⟩
  · exact absurd e (h5 _)
  · exact absurd e (h6 _)
  · exact absurd e (h7 _)
  · exact absurd e (h1 _)
  · exact absurd e (h2 _)
  · exact absurd e (h3 _)
  · exact absurd e (h4 _)
set_option maxRecDepth 100000 in
set_option maxHeartbeats 8000000 in
theorem treeRdI_of (f : Nat) (ih : ∀ f', f = f' + 1 → TreeRdI f') (hpart4 : ∀ (f' lv : Nat), lv + 1 + f' = 7 → 1 ≤ lv → TreeRdI f' → ∀ (w : World) (g : Nat), Lay w → 5 < g → g < w.heap.size → PartAll4 w g lv) (hpart5 : ∀ (f' lv : Nat), lv + 1 + f' = 7 → 1 ≤ lv → TreeRdI f' → ∀ (w : World) (g : Nat), Lay w → 5 < g → g < w.heap.size → PartAll5 w g lv) : TreeRdI f := by
  intro l bad g lv w hlf hlv hlay h7 h
  have hgw := h.lt
  have HR0 := hide h
  have HIH := hide ih
  have HPT4 := hide hpart4
  have HPT5 := hide hpart5
  have HLY := hide (fun (W : World) (hgr : w.grownBy W (some g)) => show Lay W from hlay.far hgr h7 hgw)
  have HL0 := hide hlay
  have H7 := hide h7
  have HEND := hide (fun (W : World) (k : Tree) (vs : List Value) (fq : List Nat) (l' : List UInt8) (bad' : Bool) (hz : w.heap.size + 2 < W.heap.size) (ho : OwC W k.cells vs fq) (hn : New W fq (w.heap.size + 3)) (hr : RdJ W g l' bad') (hg : w.grownBy W (some g)) (hp : Paid lv l k.bulk l' bad') (ht : TakesT lv l bad k l' bad') (hbb : bad' = false → bad = false) =>
    show TreeOutR (fun w l b => RdJ w g l b) g lv l bad w (.returned (.agg vs.toArray)) (putN W (w.heap.size + 2) 0 vs) from by
      have hgr := setN_grown vs 0 (grown_refl W (some (w.heap.size + 2)))
      have hno : w.heap.size + 2 ∉ fq := hn.out (by omega)
      have hb : Below w.heap.size W (putN W (w.heap.size + 2) 0 vs) := below_of_grown hgr (by omega) (by omega)
      exact ⟨k, vs, fq, l', bad', rfl, ho.grown hgr hn.lt hno, (hn.grown hgr (fun b e => by injection e with e; subst e; exact hno)).mono (by omega), hr.low hb hgw, only_lowR hg hb (Nat.le_refl _), hp, ht, hbb⟩)
  clear h ih hpart4 hpart5 hlay h7
  go_enter Tryz.func47, Tryz.ntmps47
  go_upto_region 1 with fail
  generalize hw1 : World.alloc _ _ = w1
  have hb1 : Below w.heap.size w w1 := by rw [← hw1]; exact (((Below.refl _ _).alloc (Nat.le_refl _) _).alloc (by rw [World.size_alloc]; omega) _).alloc (by rw [World.size_alloc, World.size_alloc]; omega) _
  have hsz1 : w1.heap.size = w.heap.size + 3 := by rw [← hw1, World.size_alloc, World.size_alloc, World.size_alloc]
  have HRB := hide (show Row w1 w.heap.size 65 [.pointer (some ⟨g, 0, none⟩)] from by rw [← hw1]; exact ((Row.new w _ _).alloc _).alloc _)
  have HLB := hide (show Row w1 (w.heap.size + 1) 3 [.int .i64 (lv : Int)] from by
    rw [← hw1]
    have h := Row.new (w.alloc (.cells #[.pointer (some ⟨g, 0, none⟩)] 65)) 3 [.int .i64 (lv : Int)]
    rw [World.size_alloc] at h
    exact h.alloc _)
  have HZB := hide (show Row w1 (w.heap.size + 2) 26 [.int .i64 0, .int .i64 0, .string .empty, .slice none 0 0, .slice none 0 0] from by
    rw [← hw1]
    have h := Row.new ((w.alloc (.cells #[.pointer (some ⟨g, 0, none⟩)] 65)).alloc (.cells #[.int .i64 (lv : Int)] 3)) 26 [.int .i64 0, .int .i64 0, .string .empty, .slice none 0 0, .slice none 0 0]
    rw [World.size_alloc, World.size_alloc] at h
    exact h)
  have HR1 := hide (HR0.out.below hb1)
  have HG1 := hide (grownBy_below hb1 (some g))
  have r0 := HRB.out.cell 0
  have l0 := HLB.out.cell 0
  have lr := HRB.out.lt
  have ll := HLB.out.lt
  obtain ⟨hbc, hbf⟩ := HR1.out.cells
  have lg := HR1.out.lt
  clear hw1 hb1 HR0
  -- the level, and the box of the result
  have hsj : ∃ fl : Bool, (fl = true ↔ (bad = true ∨ 6 < lv)) := by
    by_cases h : bad = true ∨ 6 < lv
    · exact ⟨true, by simp [h]⟩
    · exact ⟨false, by simp [h]⟩
  obtain ⟨fl, hfl⟩ := hsj
  have HFL := hide hfl
  clear hfl
  by_cases hd : 6 < lv
  case' pos =>
    have hdi : (6 : Int) < (lv : Int) := by omega
    go_upto_region 6 with fail
    generalize hw2 : World.alloc _ _ = w2
    obtain rfl : fl = true := HFL.out.2 (.inr hd)
    have hgs := only_setCell (p := ⟨g, 1, none⟩) (grown_refl w1 (some g)) (.inl rfl) (.bool true)
    have hbn : Below (w1.setCell ⟨g, 1, none⟩ (.bool true)).heap.size (w1.setCell ⟨g, 1, none⟩ (.bool true)) w2 := by rw [← hw2]; exact (Below.refl _ _).alloc (Nat.le_refl _) _
    have hszn : (w1.setCell ⟨g, 1, none⟩ (.bool true)).heap.size = w.heap.size + 3 := by simpa [World.setCell] using hsz1
    have HS := hide (show ST w w2 g lv [.int .i64 0, .int .i64 0, .string .empty, .slice none 0 0, .slice none 0 0] l true from by
      have hk : Row w2 (w.heap.size + 3) 26 [.int .i64 0, .int .i64 0, .string .empty, .slice none 0 0, .slice none 0 0] := by
        have h := Row.new (w1.setCell ⟨g, 1, none⟩ (.bool true)) 26 [.int .i64 0, .int .i64 0, .string .empty, .slice none 0 0, .slice none 0 0]
        rw [hszn] at h
        rw [← hw2]
        exact h
      exact ⟨hk, (HR1.out.setFail true).below hbn, (HRB.out.grown hgs (fun e => by injection e with e; omega)).below hbn (by omega), (HLB.out.grown hgs (fun e => by injection e with e; omega)).below hbn (by omega), (HZB.out.grown hgs (fun e => by injection e with e; omega)).below hbn (by omega), only_lowR (only_trans HG1.out hgs) hbn (by omega)⟩)
    clear hw2 hgs hbn hszn hdi hbc hbf r0 l0 lr ll HRB HLB HZB HR1 HG1 lg hsz1
  case' neg =>
    have hdi : ¬ ((6 : Int) < (lv : Int)) := by omega
    go_upto_region 6 with fail
    generalize hw2 : World.alloc _ _ = w2
    have hbn : Below w1.heap.size w1 w2 := by rw [← hw2]; exact (Below.refl _ _).alloc (Nat.le_refl _) _
    obtain rfl : fl = bad := by
      exact fl_eqT HFL.out hd
    have HS := hide (show ST w w2 g lv [.int .i64 0, .int .i64 0, .string .empty, .slice none 0 0, .slice none 0 0] l fl from by
      have hk : Row w2 (w.heap.size + 3) 26 [.int .i64 0, .int .i64 0, .string .empty, .slice none 0 0, .slice none 0 0] := by
        have h := Row.new w1 26 [.int .i64 0, .int .i64 0, .string .empty, .slice none 0 0, .slice none 0 0]
        rw [hsz1] at h
        rw [← hw2]
        exact h
      exact ⟨hk, HR1.out.below hbn, HRB.out.below hbn (by omega), HLB.out.below hbn (by omega), HZB.out.below hbn (by omega), only_lowR HG1.out hbn (by omega)⟩)
    clear hw2 hbn hdi hbc hbf r0 l0 lr ll HRB HLB HZB HR1 HG1 lg hsz1
  case' neg => rcases fl with _ | _
  case pos =>
    have HT := hide (show TakesT lv l bad (.mk 0 0 .empty [] []) l true from TakesT.deep hd)
    have r0 := HS.out.rb.cell 0
    have rl := HS.out.rb.lt
    have l0 := HS.out.lb.cell 0
    have ll := HS.out.lb.lt
    obtain ⟨hbc, hbf⟩ := HS.out.rd.cells
    have lg := HS.out.rd.lt
    have q0 := HS.out.kb.cell 0
    have p0 := HS.out.kb.frozen 0
    have q1 := HS.out.kb.cell 1
    have p1 := HS.out.kb.frozen 1
    have q2 := HS.out.kb.cell 2
    have p2 := HS.out.kb.frozen 2
    have q3 := HS.out.kb.cell 3
    have p3 := HS.out.kb.frozen 3
    have q4 := HS.out.kb.cell 4
    have p4 := HS.out.kb.frozen 4
    have z0 := HS.out.zb.cell 0
    have y0 := HS.out.zb.frozen 0
    have z1 := HS.out.zb.cell 1
    have y1 := HS.out.zb.frozen 1
    have z2 := HS.out.zb.cell 2
    have y2 := HS.out.zb.frozen 2
    have z3 := HS.out.zb.cell 3
    have y3 := HS.out.zb.frozen 3
    have z4 := HS.out.zb.cell 4
    have y4 := HS.out.zb.frozen 4
    have lk := HS.out.kb.lt
    have lz := HS.out.zb.lt
    go_wp2
    refine bodyPost_ret (ret_row rfl _ _ (w.heap.size + 2) 26 [.int .i64 0, .int .i64 0, .string .empty, .slice none 0 0, .slice none 0 0] (HS.out.zb.setAll [.int .i64 0, .int .i64 0, .string .empty, .slice none 0 0, .slice none 0 0] rfl) _ rfl Tryz.underlying26 rfl (by kernel_rfl)) rfl ?_
    exact HEND.out w2 (.mk 0 0 .empty [] []) _ [] l true HS.out.zb.lt (tleaf_ow (s := 0) (n := 0) (x := .empty) _ (by decide) (by decide) (by decide)) (New.nil _ _) HS.out.rd HS.out.gr (Paid.none lv l) HT.out (fun h => by cases h)
  case neg.true =>
    have HT := hide (show TakesT lv l true (.mk 0 0 .empty [] []) l true from TakesT.bad)
    have r0 := HS.out.rb.cell 0
    have rl := HS.out.rb.lt
    have l0 := HS.out.lb.cell 0
    have ll := HS.out.lb.lt
    obtain ⟨hbc, hbf⟩ := HS.out.rd.cells
    have lg := HS.out.rd.lt
    have q0 := HS.out.kb.cell 0
    have p0 := HS.out.kb.frozen 0
    have q1 := HS.out.kb.cell 1
    have p1 := HS.out.kb.frozen 1
    have q2 := HS.out.kb.cell 2
    have p2 := HS.out.kb.frozen 2
    have q3 := HS.out.kb.cell 3
    have p3 := HS.out.kb.frozen 3
    have q4 := HS.out.kb.cell 4
    have p4 := HS.out.kb.frozen 4
    have z0 := HS.out.zb.cell 0
    have y0 := HS.out.zb.frozen 0
    have z1 := HS.out.zb.cell 1
    have y1 := HS.out.zb.frozen 1
    have z2 := HS.out.zb.cell 2
    have y2 := HS.out.zb.frozen 2
    have z3 := HS.out.zb.cell 3
    have y3 := HS.out.zb.frozen 3
    have z4 := HS.out.zb.cell 4
    have y4 := HS.out.zb.frozen 4
    have lk := HS.out.kb.lt
    have lz := HS.out.zb.lt
    go_wp2
    refine bodyPost_ret (ret_row rfl _ _ (w.heap.size + 2) 26 [.int .i64 0, .int .i64 0, .string .empty, .slice none 0 0, .slice none 0 0] (HS.out.zb.setAll [.int .i64 0, .int .i64 0, .string .empty, .slice none 0 0, .slice none 0 0] rfl) _ rfl Tryz.underlying26 rfl (by kernel_rfl)) rfl ?_
    exact HEND.out w2 (.mk 0 0 .empty [] []) _ [] l true HS.out.zb.lt (tleaf_ow (s := 0) (n := 0) (x := .empty) _ (by decide) (by decide) (by decide)) (New.nil _ _) HS.out.rd HS.out.gr (Paid.none lv l) HT.out (fun h => by cases h)
  case neg.false =>
    have hd6 : lv ≤ 6 := Nat.not_lt.1 hd
    obtain ⟨f', rfl⟩ : ∃ f', f = f' + 1 := ⟨f - 1, by omega⟩
    have HI := hide (HIH.out f' rfl)
    have HPA4 := hide (HPT4.out f' lv (by omega) hlv HI.out w g HL0.out H7.out hgw)
    have HPA5 := hide (HPT5.out f' lv (by omega) hlv HI.out w g HL0.out H7.out hgw)
    have hwd : IntKind.i64.wrap ((lv : Int) + 1) = (lv : Int) + 1 := wrapI _ (by omega) (by omega)
    have HIK := hide (fun (W : World) (l : List UInt8) (bad : Bool) (hgr : w.grownBy W (some g)) (h : RdJ W g l bad) => show Calls Tryz.prog 47 #[.pointer (some ⟨g, 0, none⟩), .int .i64 ((lv : Int) + 1)] W (TreeOutR (fun w l b => RdJ w g l b) g (lv + 1) l bad W) from by
      have h := HI.out l bad g (lv + 1) W (by omega) (by omega) (HLY.out W hgr) H7.out h
      rw [show ((lv + 1 : Nat) : Int) = (lv : Int) + 1 by omega] at h
      exact h)
    clear HIH HPT4 HPT5 HFL
    have r0 := HS.out.rb.cell 0
    have rl := HS.out.rb.lt
    obtain ⟨hbc, hbf⟩ := HS.out.rd.cells
    have lg := HS.out.rd.lt
    have HSK := hide (skip_any HS.out.rd ⟨#[91]⟩)
    go_wp2_with fail
    refine HSK.out.mono ?_
    rintro e w3 ⟨ok, l1, rfl, hr, he, hg⟩
    have HE1 := hide (show Eaten [91] l ok l1 from he)
    replace HS := hide (HS.out.read hgw hg hr)
    clear r0 rl HSK hr he hg hbc hbf lg
    rcases ok with _ | _
    rotate_left
    · skip
      obtain rfl : l = 91 :: l1 := by rcases HE1.out with ⟨_, h⟩ | ⟨h, _⟩ <;> first | exact h | cases h
      have q0 := HS.out.kb.cell 0
      have p0 := HS.out.kb.frozen 0
      have q1 := HS.out.kb.cell 1
      have p1 := HS.out.kb.frozen 1
      have q2 := HS.out.kb.cell 2
      have p2 := HS.out.kb.frozen 2
      have q3 := HS.out.kb.cell 3
      have p3 := HS.out.kb.frozen 3
      have q4 := HS.out.kb.cell 4
      have p4 := HS.out.kb.frozen 4
      have lk := HS.out.kb.lt
      have r0 := HS.out.rb.cell 0
      have rl := HS.out.rb.lt
      replace HS := hide (HS.out.set hgw 0 (.int .i64 4))
      have HKD := hide (kids4_any hd6 hgw HPA4.out (ST.toKT (S := 4) HS.out))
      go_wp2_with fail
      refine HKD.out.mono ?_
      rintro e w9 ⟨ns, ks, l9, b9, B1, n1, d1, us1, B2, n2, d2, us2, fi2, rfl, hk, hpd, htk⟩
      have HK := hide hk
      have HPD := hide hpd
      have HTK := hide htk
      clear q0 p0 q1 p1 q2 p2 q3 p3 q4 p4 lk r0 rl HKD hk hpd htk
      have q0 := HK.out.two.box.cell 0
      have q1 := HK.out.two.box.cell 1
      have q2 := HK.out.two.box.cell 2
      have q3 := HK.out.two.box.cell 3
      have q4 := HK.out.two.box.cell 4
      have z0 := HK.out.zb.cell 0
      have y0 := HK.out.zb.frozen 0
      have z1 := HK.out.zb.cell 1
      have y1 := HK.out.zb.frozen 1
      have z2 := HK.out.zb.cell 2
      have y2 := HK.out.zb.frozen 2
      have z3 := HK.out.zb.cell 3
      have y3 := HK.out.zb.frozen 3
      have z4 := HK.out.zb.cell 4
      have y4 := HK.out.zb.frozen 4
      have lk := HK.out.two.box.lt
      have lz := HK.out.zb.lt
      go_wp2
      obtain ⟨fq, ho, hnw⟩ := tform_ow HK.out.two (by decide)
      refine bodyPost_ret (ret_row rfl _ _ (w.heap.size + 2) 26 (treeMkR 4 (.slice B1 n1 d1) (.slice B2 n2 d2)) (HK.out.zb.setAll (treeMkR 4 (.slice B1 n1 d1) (.slice B2 n2 d2)) rfl) _ rfl Tryz.underlying26 rfl (by kernel_rfl)) rfl ?_
      exact HEND.out _ (.mk 4 0 .empty ns ks) _ fq l9 b9 HK.out.zb.lt ho (hnw.mono (by omega)) HK.out.rd HK.out.gr HPD.out HTK.out (fun _ => by first | rfl | trivial)
    obtain ⟨e1, hno1⟩ := HE1.out.no
    replace e1 := e1.symm
    subst e1
    have HNO1 := hide (show ∀ r, l ≠ [91] ++ r from hno1)
    clear hno1 HE1
    have r0 := HS.out.rb.cell 0
    have rl := HS.out.rb.lt
    have HSK := hide (skip_any HS.out.rd ⟨#[123]⟩)
    go_wp2_with fail
    refine HSK.out.mono ?_
    rintro e w4 ⟨ok, l2, rfl, hr, he, hg⟩
    have HE2 := hide (show Eaten [123] l ok l2 from he)
    replace HS := hide (HS.out.read hgw hg hr)
    clear r0 rl HSK hr he hg
    rcases ok with _ | _
    rotate_left
    · skip
      obtain rfl : l = 123 :: l2 := by rcases HE2.out with ⟨_, h⟩ | ⟨h, _⟩ <;> first | exact h | cases h
      have q0 := HS.out.kb.cell 0
      have p0 := HS.out.kb.frozen 0
      have q1 := HS.out.kb.cell 1
      have p1 := HS.out.kb.frozen 1
      have q2 := HS.out.kb.cell 2
      have p2 := HS.out.kb.frozen 2
      have q3 := HS.out.kb.cell 3
      have p3 := HS.out.kb.frozen 3
      have q4 := HS.out.kb.cell 4
      have p4 := HS.out.kb.frozen 4
      have lk := HS.out.kb.lt
      have r0 := HS.out.rb.cell 0
      have rl := HS.out.rb.lt
      replace HS := hide (HS.out.set hgw 0 (.int .i64 5))
      have HKD := hide (kids5_any hd6 hgw HPA5.out (ST.toKT (S := 5) HS.out))
      go_wp2_with fail
      refine HKD.out.mono ?_
      rintro e w9 ⟨ns, ks, l9, b9, B1, n1, d1, us1, B2, n2, d2, us2, fi2, rfl, hk, hpd, htk⟩
      have HK := hide hk
      have HPD := hide hpd
      have HTK := hide htk
      clear q0 p0 q1 p1 q2 p2 q3 p3 q4 p4 lk r0 rl HKD hk hpd htk
      have q0 := HK.out.two.box.cell 0
      have q1 := HK.out.two.box.cell 1
      have q2 := HK.out.two.box.cell 2
      have q3 := HK.out.two.box.cell 3
      have q4 := HK.out.two.box.cell 4
      have z0 := HK.out.zb.cell 0
      have y0 := HK.out.zb.frozen 0
      have z1 := HK.out.zb.cell 1
      have y1 := HK.out.zb.frozen 1
      have z2 := HK.out.zb.cell 2
      have y2 := HK.out.zb.frozen 2
      have z3 := HK.out.zb.cell 3
      have y3 := HK.out.zb.frozen 3
      have z4 := HK.out.zb.cell 4
      have y4 := HK.out.zb.frozen 4
      have lk := HK.out.two.box.lt
      have lz := HK.out.zb.lt
      go_wp2
      obtain ⟨fq, ho, hnw⟩ := tform_ow HK.out.two (by decide)
      refine bodyPost_ret (ret_row rfl _ _ (w.heap.size + 2) 26 (treeMkR 5 (.slice B1 n1 d1) (.slice B2 n2 d2)) (HK.out.zb.setAll (treeMkR 5 (.slice B1 n1 d1) (.slice B2 n2 d2)) rfl) _ rfl Tryz.underlying26 rfl (by kernel_rfl)) rfl ?_
      exact HEND.out _ (.mk 5 0 .empty ns ks) _ fq l9 b9 HK.out.zb.lt ho (hnw.mono (by omega)) HK.out.rd HK.out.gr HPD.out HTK.out (fun _ => by first | rfl | trivial)
    obtain ⟨e2, hno2⟩ := HE2.out.no
    replace e2 := e2.symm
    subst e2
    have HNO2 := hide (show ∀ r, l ≠ [123] ++ r from hno2)
    clear hno2 HE2
    have r0 := HS.out.rb.cell 0
    have rl := HS.out.rb.lt
    have HSK := hide (skip_any HS.out.rd ⟨#[126]⟩)
    go_wp2_with fail
    refine HSK.out.mono ?_
    rintro e w5 ⟨ok, l3, rfl, hr, he, hg⟩
    have HE3 := hide (show Eaten [126] l ok l3 from he)
    replace HS := hide (HS.out.read hgw hg hr)
    clear r0 rl HSK hr he hg
    rcases ok with _ | _
    rotate_left
    · skip
      have r0 := HS.out.rb.cell 0
      have rl := HS.out.rb.lt
      have l0 := HS.out.lb.cell 0
      have ll := HS.out.lb.lt
      obtain ⟨hbc, hbf⟩ := HS.out.rd.cells
      have lg := HS.out.rd.lt
      have q0 := HS.out.kb.cell 0
      have p0 := HS.out.kb.frozen 0
      have q1 := HS.out.kb.cell 1
      have p1 := HS.out.kb.frozen 1
      have q2 := HS.out.kb.cell 2
      have p2 := HS.out.kb.frozen 2
      have q3 := HS.out.kb.cell 3
      have p3 := HS.out.kb.frozen 3
      have q4 := HS.out.kb.cell 4
      have p4 := HS.out.kb.frozen 4
      have z0 := HS.out.zb.cell 0
      have y0 := HS.out.zb.frozen 0
      have z1 := HS.out.zb.cell 1
      have y1 := HS.out.zb.frozen 1
      have z2 := HS.out.zb.cell 2
      have y2 := HS.out.zb.frozen 2
      have z3 := HS.out.zb.cell 3
      have y3 := HS.out.zb.frozen 3
      have z4 := HS.out.zb.cell 4
      have y4 := HS.out.zb.frozen 4
      have lk := HS.out.kb.lt
      have lz := HS.out.zb.lt
      replace HS := hide (HS.out.set hgw 0 (.int .i64 6))
      go_wp2
      refine bodyPost_ret (ret_row rfl _ _ (w.heap.size + 2) 26 [.int .i64 6, .int .i64 0, .string .empty, .slice none 0 0, .slice none 0 0] (HS.out.zb.setAll [.int .i64 6, .int .i64 0, .string .empty, .slice none 0 0, .slice none 0 0] rfl) _ rfl Tryz.underlying26 rfl (by kernel_rfl)) rfl ?_
      exact HEND.out _ (.mk 6 0 .empty [] []) _ [] l3 false HS.out.zb.lt (tleaf_ow (s := 6) (n := 0) (x := .empty) _ (by decide) (by decide) (by decide)) (New.nil _ _) HS.out.rd HS.out.gr (Paid.leaf (by decide) HE3.out _ rfl) (TakesT.tilde HE3.out (eaten_head HE3.out)) (fun _ => by first | rfl | trivial)
    obtain ⟨e3, hno3⟩ := HE3.out.no
    replace e3 := e3.symm
    subst e3
    have HNO3 := hide (show ∀ r, l ≠ [126] ++ r from hno3)
    clear hno3 HE3
    have r0 := HS.out.rb.cell 0
    have rl := HS.out.rb.lt
    have HSK := hide (skip_any HS.out.rd ⟨#[63]⟩)
    go_wp2_with fail
    refine HSK.out.mono ?_
    rintro e w6 ⟨ok, l4, rfl, hr, he, hg⟩
    have HE4 := hide (show Eaten [63] l ok l4 from he)
    replace HS := hide (HS.out.read hgw hg hr)
    clear r0 rl HSK hr he hg
    rcases ok with _ | _
    rotate_left
    · skip
      have r0 := HS.out.rb.cell 0
      have rl := HS.out.rb.lt
      have l0 := HS.out.lb.cell 0
      have ll := HS.out.lb.lt
      have hkb := HS.out.kb.lt
      have HKC := hide (HIK.out _ _ _ HS.out.gr HS.out.rd)
      go_wp2_with fail
      refine HKC.out.mono ?_
      rintro e wk ⟨k, us, fq, lk5, b5, rfl, ho5, hn5, hr5, hg5, hp5, ht5, hb5⟩
      have HN5 := hide (hn5.mono (show w.heap.size + 3 + 1 ≤ w6.heap.size from hkb))
      replace HS := hide (HS.out.read hgw hg5 hr5)
      obtain ⟨B1, d1, B2, d2, j1, j2, rfl, k0, k0b, k0c, k1, k2, efq⟩ := ho5.oTree
      have HO5 := hide ho5
      have HP5 := hide hp5
      have HT5 := hide ht5
      have HB5 := hide hb5
      clear r0 rl l0 ll hkb HKC ho5 hn5 hr5 hg5 hp5 ht5 hb5 k1 k2 efq
      have q0 := HS.out.kb.cell 0
      have p0 := HS.out.kb.frozen 0
      have q1 := HS.out.kb.cell 1
      have p1 := HS.out.kb.frozen 1
      have q2 := HS.out.kb.cell 2
      have p2 := HS.out.kb.frozen 2
      have q3 := HS.out.kb.cell 3
      have p3 := HS.out.kb.frozen 3
      have q4 := HS.out.kb.cell 4
      have p4 := HS.out.kb.frozen 4
      have lk := HS.out.kb.lt
      go_upto_region 24 with fail
      generalize hw6 : World.alloc _ _ = w6
      have e6 : ((wk.alloc (.cells #[.int .i64 k.sort, .int .i64 k.num, .string k.text, .slice B1 k.names.length d1, .slice B2 k.kids.length d2] 26)).setCell ⟨w.heap.size + 3, 0, none⟩ (.int .i64 6)).setCell ⟨w.heap.size + 3, 4, none⟩ (.slice (some ⟨wk.heap.size, 0, none⟩) 1 1) = w6 := by
        rw [World.setCell_alloc_past _ _ _ _ lk, World.setCell_alloc_past _ _ _ _ (by simpa [World.setCell] using lk)]
        exact hw6
      have hgp : (wk.alloc (.cells #[.int .i64 k.sort, .int .i64 k.num, .string k.text, .slice B1 k.names.length d1, .slice B2 k.kids.length d2] 26)).grownBy w6 (some (w.heap.size + 3)) := by
        rw [← e6]
        exact only_setCell (p := ⟨w.heap.size + 3, 4, none⟩) (only_setCell (p := ⟨w.heap.size + 3, 0, none⟩) (grown_refl _ _) (.inl rfl) _) (.inl rfl) _
      have hA := (Below.refl wk.heap.size wk).alloc (Nat.le_refl _) (.cells #[.int .i64 k.sort, .int .i64 k.num, .string k.text, .slice B1 k.names.length d1, .slice B2 k.kids.length d2] 26)
      have hsA : (wk.alloc (.cells #[.int .i64 k.sort, .int .i64 k.num, .string k.text, .slice B1 k.names.length d1, .slice B2 k.kids.length d2] 26)).heap.size = wk.heap.size + 1 := World.size_alloc _ _
      have hnb : w.heap.size + 3 ∉ fq := HN5.out.out (by omega)
      have HR6 := hide (show Row w6 wk.heap.size 26 [.int .i64 k.sort, .int .i64 k.num, .string k.text, .slice B1 k.names.length d1, .slice B2 k.kids.length d2] from (Row.new wk _ _).grown hgp (fun e => by injection e with e; omega))
      have HO6 := hide ((HO5.out.alloc HN5.out.lt (.cells #[.int .i64 k.sort, .int .i64 k.num, .string k.text, .slice B1 k.names.length d1, .slice B2 k.kids.length d2] 26)).grown hgp (HN5.out.alloc (.cells #[.int .i64 k.sort, .int .i64 k.num, .string k.text, .slice B1 k.names.length d1, .slice B2 k.kids.length d2] 26)).lt hnb)
      have HN6 := hide ((HN5.out.alloc (.cells #[.int .i64 k.sort, .int .i64 k.num, .string k.text, .slice B1 k.names.length d1, .slice B2 k.kids.length d2] 26)).grown hgp (fun b e => by injection e with e; subst e; exact hnb))
      have HX6 := hide (show wk.heap.size ∉ fq ∧ w.heap.size + 3 ≤ wk.heap.size from ⟨fun hm => Nat.lt_irrefl _ (HN5.out.lt _ hm), Nat.le_of_lt lk⟩)
      replace HS := hide (show ST w w6 g lv [.int .i64 6, .int .i64 0, .string .empty, .slice none 0 0, .slice (some ⟨wk.heap.size, 0, none⟩) 1 1] lk5 b5 from HS.out.put hgw ((hA.mono (Nat.le_of_lt lk)).trans (below_of_grown hgp (Nat.le_refl _) (by omega))) (by rw [← e6]; exact ((HS.out.kb.alloc _).set 0 _).set 4 _))
      clear hw6 e6 hgp hA hsA hnb HO5 HN5 q0 p0 q1 p1 q2 p2 q3 p3 q4 p4 lk
      have r0 := HS.out.rb.cell 0
      have rl := HS.out.rb.lt
      have l0 := HS.out.lb.cell 0
      have ll := HS.out.lb.lt
      obtain ⟨hbc, hbf⟩ := HS.out.rd.cells
      have lg := HS.out.rd.lt
      have q0 := HS.out.kb.cell 0
      have p0 := HS.out.kb.frozen 0
      have q1 := HS.out.kb.cell 1
      have p1 := HS.out.kb.frozen 1
      have q2 := HS.out.kb.cell 2
      have p2 := HS.out.kb.frozen 2
      have q3 := HS.out.kb.cell 3
      have p3 := HS.out.kb.frozen 3
      have q4 := HS.out.kb.cell 4
      have p4 := HS.out.kb.frozen 4
      have z0 := HS.out.zb.cell 0
      have y0 := HS.out.zb.frozen 0
      have z1 := HS.out.zb.cell 1
      have y1 := HS.out.zb.frozen 1
      have z2 := HS.out.zb.cell 2
      have y2 := HS.out.zb.frozen 2
      have z3 := HS.out.zb.cell 3
      have y3 := HS.out.zb.frozen 3
      have z4 := HS.out.zb.cell 4
      have y4 := HS.out.zb.frozen 4
      have lk := HS.out.kb.lt
      have lz := HS.out.zb.lt
      go_wp2
      refine bodyPost_ret (ret_row rfl _ _ (w.heap.size + 2) 26 [.int .i64 6, .int .i64 0, .string .empty, .slice none 0 0, .slice (some ⟨wk.heap.size, 0, none⟩) 1 1] (HS.out.zb.setAll [.int .i64 6, .int .i64 0, .string .empty, .slice none 0 0, .slice (some ⟨wk.heap.size, 0, none⟩) 1 1] rfl) _ rfl Tryz.underlying26 rfl (by kernel_rfl)) rfl ?_
      exact HEND.out _ (.mk 6 0 .empty [] [k]) _ (wk.heap.size :: fq) lk5 b5 HS.out.zb.lt (tone_ow (by decide) HO6.out wk.heap.size HR6.out) ((HN6.out.mono (by omega)).consHiR HX6.out.1 HX6.out.2 (Unf.row HR6.out) HR6.out.lt) HS.out.rd HS.out.gr (by rw [Tree.bulk_one]; exact Paid.more (by decide) HE4.out HP5.out (fun _ => rfl) hd6) (TakesT.maybe HE4.out (eaten_head HE4.out) HT5.out) (fun _ => by first | rfl | trivial)
    obtain ⟨e4, hno4⟩ := HE4.out.no
    replace e4 := e4.symm
    subst e4
    have HNO4 := hide (show ∀ r, l ≠ [63] ++ r from hno4)
    clear hno4 HE4
    have r0 := HS.out.rb.cell 0
    have rl := HS.out.rb.lt
    have HSK := hide (skip_any HS.out.rd ⟨#[34]⟩)
    go_wp2_with fail
    refine HSK.out.mono ?_
    rintro e w7 ⟨ok, l5, rfl, hr, he, hg⟩
    have HE5 := hide (show Eaten [34] l ok l5 from he)
    replace HS := hide (HS.out.read hgw hg hr)
    clear r0 rl HSK hr he hg
    rcases ok with _ | _
    rotate_left
    · skip
      have r0 := HS.out.rb.cell 0
      have rl := HS.out.rb.lt
      have HUN := hide (until_any HS.out.rd 34 (by decide))
      go_wp2_with fail
      refine HUN.out.mono ?_
      rintro e wu ⟨x, lu, rfl, hxs, hru, hun, hgu⟩
      have HUT := hide hun
      have HXS := hide (show x.size ≤ maxLen from by unfold maxLen; omega)
      replace HS := hide (HS.out.read hgw hgu hru)
      clear r0 rl HUN hxs hru hun hgu
      have q0 := HS.out.kb.cell 0
      have p0 := HS.out.kb.frozen 0
      have q1 := HS.out.kb.cell 1
      have p1 := HS.out.kb.frozen 1
      have q2 := HS.out.kb.cell 2
      have p2 := HS.out.kb.frozen 2
      have q3 := HS.out.kb.cell 3
      have p3 := HS.out.kb.frozen 3
      have q4 := HS.out.kb.cell 4
      have p4 := HS.out.kb.frozen 4
      have lk := HS.out.kb.lt
      replace HS := hide (HS.out.set hgw 0 (.int .i64 2))
      replace HS := hide (HS.out.set hgw 2 (.string x))
      go_upto_region 19 with fail
      clear q0 p0 q1 p1 q2 p2 q3 p3 q4 p4 lk
      generalize hw6 : World.setCell _ _ _ = w6
      rw [hw6] at HS
      clear hw6
      have hbr : w6.grownBy w6.drew (some g) := grown_drewN w6 g 1
      have r0 := HS.out.rb.cell 0
      have rl := HS.out.rb.lt
      obtain ⟨hbc, hbf⟩ := HS.out.rd.cells
      have lg := HS.out.rd.lt
      have HSK := hide (skip_any (HS.out.rd.drewN 1) ⟨#[34]⟩)
      go_region_with (go_simp; go_at_call 98; have hh : Calls Tryz.prog 98 _ w6.drew _ := HSK.out; refine hh.mono ?_; clear hh; rintro e w7 ⟨ok2, l7, rfl, hr7, he7, hg7⟩; have HE7 := hide (show Eaten [34] lu ok2 l7 from he7); have HS7 := hide (HS.out.read hgw (only_trans hbr hg7) hr7); have r7 := HS7.out.rb.cell 0; have rl7 := HS7.out.rb.lt; obtain ⟨hbc7, hbf7⟩ := HS7.out.rd.cells; have lg7 := HS7.out.rd.lt; clear hr7 he7 hg7)
      all_goals
        clear r7 rl7 hbc7 hbf7 lg7 r0 rl hbc hbf lg HSK
        have hgs : w7.grownBy (w7.setCell ⟨g, 1, none⟩ (.bool (!ok2))) (some g) := grownBy_setCell w7 ⟨g, 1, none⟩ _
        have r0 := HS7.out.rb.cell 0
        have rl := HS7.out.rb.lt
        have l0 := HS7.out.lb.cell 0
        have ll := HS7.out.lb.lt
        obtain ⟨hbc, hbf⟩ := HS7.out.rd.cells
        have lg := HS7.out.rd.lt
        have q0 := HS7.out.kb.cell 0
        have p0 := HS7.out.kb.frozen 0
        have q1 := HS7.out.kb.cell 1
        have p1 := HS7.out.kb.frozen 1
        have q2 := HS7.out.kb.cell 2
        have p2 := HS7.out.kb.frozen 2
        have q3 := HS7.out.kb.cell 3
        have p3 := HS7.out.kb.frozen 3
        have q4 := HS7.out.kb.cell 4
        have p4 := HS7.out.kb.frozen 4
        have z0 := HS7.out.zb.cell 0
        have y0 := HS7.out.zb.frozen 0
        have z1 := HS7.out.zb.cell 1
        have y1 := HS7.out.zb.frozen 1
        have z2 := HS7.out.zb.cell 2
        have y2 := HS7.out.zb.frozen 2
        have z3 := HS7.out.zb.cell 3
        have y3 := HS7.out.zb.frozen 3
        have z4 := HS7.out.zb.cell 4
        have y4 := HS7.out.zb.frozen 4
        have lk := HS7.out.kb.lt
        have lz := HS7.out.zb.lt
        go_wp2
        replace HS := hide (HS7.out.read hgw hgs (HS7.out.rd.setFail (!ok2)))
        refine bodyPost_ret (ret_row rfl _ _ (w.heap.size + 2) 26 [.int .i64 2, .int .i64 0, .string x, .slice none 0 0, .slice none 0 0] (HS.out.zb.setAll [.int .i64 2, .int .i64 0, .string x, .slice none 0 0, .slice none 0 0] rfl) _ rfl Tryz.underlying26 rfl (by kernel_rfl)) rfl ?_
        exact HEND.out _ (.mk 2 0 x [] []) _ [] l7 (!ok2) HS.out.zb.lt (tleaf_ow (s := 2) (n := 0) (x := x) _ (by decide) (by decide) HXS.out) (New.nil _ _) HS.out.rd HS.out.gr (textPaidJ HE5.out HUT.out HE7.out) (TakesT.text (textTakenJ HE5.out HUT.out HE7.out) (eaten_head HE5.out)) (fun _ => by first | rfl | trivial)
    obtain ⟨e5, hno5⟩ := HE5.out.no
    replace e5 := e5.symm
    subst e5
    have HNO5 := hide (show ∀ r, l ≠ [34] ++ r from hno5)
    clear hno5 HE5
    have r0 := HS.out.rb.cell 0
    have rl := HS.out.rb.lt
    have HSK := hide (skip_any HS.out.rd ⟨#[121, 101, 115]⟩)
    go_wp2_with fail
    refine HSK.out.mono ?_
    rintro e w8 ⟨ok, l6, rfl, hr, he, hg⟩
    have HE6 := hide (show Eaten [121, 101, 115] l ok l6 from he)
    replace HS := hide (HS.out.read hgw hg hr)
    clear r0 rl HSK hr he hg
    rcases ok with _ | _
    rotate_left
    · skip
      have r0 := HS.out.rb.cell 0
      have rl := HS.out.rb.lt
      have l0 := HS.out.lb.cell 0
      have ll := HS.out.lb.lt
      obtain ⟨hbc, hbf⟩ := HS.out.rd.cells
      have lg := HS.out.rd.lt
      have q0 := HS.out.kb.cell 0
      have p0 := HS.out.kb.frozen 0
      have q1 := HS.out.kb.cell 1
      have p1 := HS.out.kb.frozen 1
      have q2 := HS.out.kb.cell 2
      have p2 := HS.out.kb.frozen 2
      have q3 := HS.out.kb.cell 3
      have p3 := HS.out.kb.frozen 3
      have q4 := HS.out.kb.cell 4
      have p4 := HS.out.kb.frozen 4
      have z0 := HS.out.zb.cell 0
      have y0 := HS.out.zb.frozen 0
      have z1 := HS.out.zb.cell 1
      have y1 := HS.out.zb.frozen 1
      have z2 := HS.out.zb.cell 2
      have y2 := HS.out.zb.frozen 2
      have z3 := HS.out.zb.cell 3
      have y3 := HS.out.zb.frozen 3
      have z4 := HS.out.zb.cell 4
      have y4 := HS.out.zb.frozen 4
      have lk := HS.out.kb.lt
      have lz := HS.out.zb.lt
      replace HS := hide (HS.out.set hgw 0 (.int .i64 3))
      replace HS := hide (HS.out.set hgw 1 (.int .i64 1))
      go_wp2
      refine bodyPost_ret (ret_row rfl _ _ (w.heap.size + 2) 26 [.int .i64 3, .int .i64 1, .string .empty, .slice none 0 0, .slice none 0 0] (HS.out.zb.setAll [.int .i64 3, .int .i64 1, .string .empty, .slice none 0 0, .slice none 0 0] rfl) _ rfl Tryz.underlying26 rfl (by kernel_rfl)) rfl ?_
      exact HEND.out _ (.mk 3 1 .empty [] []) _ [] l6 false HS.out.zb.lt (tleaf_ow (s := 3) (n := 1) (x := .empty) _ (by decide) (by decide) (by decide)) (New.nil _ _) HS.out.rd HS.out.gr (Paid.leaf (by decide) HE6.out _ rfl) (TakesT.yes HE6.out (eaten_head HE6.out)) (fun _ => by first | rfl | trivial)
    obtain ⟨e6, hno6⟩ := HE6.out.no
    replace e6 := e6.symm
    subst e6
    have HNO6 := hide (show ∀ r, l ≠ [121, 101, 115] ++ r from hno6)
    clear hno6 HE6
    have r0 := HS.out.rb.cell 0
    have rl := HS.out.rb.lt
    have HSK := hide (skip_any HS.out.rd ⟨#[110, 111]⟩)
    go_wp2_with fail
    refine HSK.out.mono ?_
    rintro e w9 ⟨ok, l7, rfl, hr, he, hg⟩
    have HE7 := hide (show Eaten [110, 111] l ok l7 from he)
    replace HS := hide (HS.out.read hgw hg hr)
    clear r0 rl HSK hr he hg
    rcases ok with _ | _
    rotate_left
    · skip
      have r0 := HS.out.rb.cell 0
      have rl := HS.out.rb.lt
      have l0 := HS.out.lb.cell 0
      have ll := HS.out.lb.lt
      obtain ⟨hbc, hbf⟩ := HS.out.rd.cells
      have lg := HS.out.rd.lt
      have q0 := HS.out.kb.cell 0
      have p0 := HS.out.kb.frozen 0
      have q1 := HS.out.kb.cell 1
      have p1 := HS.out.kb.frozen 1
      have q2 := HS.out.kb.cell 2
      have p2 := HS.out.kb.frozen 2
      have q3 := HS.out.kb.cell 3
      have p3 := HS.out.kb.frozen 3
      have q4 := HS.out.kb.cell 4
      have p4 := HS.out.kb.frozen 4
      have z0 := HS.out.zb.cell 0
      have y0 := HS.out.zb.frozen 0
      have z1 := HS.out.zb.cell 1
      have y1 := HS.out.zb.frozen 1
      have z2 := HS.out.zb.cell 2
      have y2 := HS.out.zb.frozen 2
      have z3 := HS.out.zb.cell 3
      have y3 := HS.out.zb.frozen 3
      have z4 := HS.out.zb.cell 4
      have y4 := HS.out.zb.frozen 4
      have lk := HS.out.kb.lt
      have lz := HS.out.zb.lt
      replace HS := hide (HS.out.set hgw 0 (.int .i64 3))
      go_wp2
      refine bodyPost_ret (ret_row rfl _ _ (w.heap.size + 2) 26 [.int .i64 3, .int .i64 0, .string .empty, .slice none 0 0, .slice none 0 0] (HS.out.zb.setAll [.int .i64 3, .int .i64 0, .string .empty, .slice none 0 0, .slice none 0 0] rfl) _ rfl Tryz.underlying26 rfl (by kernel_rfl)) rfl ?_
      exact HEND.out _ (.mk 3 0 .empty [] []) _ [] l7 false HS.out.zb.lt (tleaf_ow (s := 3) (n := 0) (x := .empty) _ (by decide) (by decide) (by decide)) (New.nil _ _) HS.out.rd HS.out.gr (Paid.leaf (by decide) HE7.out _ rfl) (TakesT.no HE7.out (eaten_head HE7.out)) (fun _ => by first | rfl | trivial)
    obtain ⟨e7, hno7⟩ := HE7.out.no
    replace e7 := e7.symm
    subst e7
    have HNO7 := hide (show ∀ r, l ≠ [110, 111] ++ r from hno7)
    clear hno7 HE7
    have r0 := HS.out.rb.cell 0
    have rl := HS.out.rb.lt
    have HUN := hide (until3_any HS.out.rd)
    go_wp2_with fail
    refine HUN.out.mono ?_
    rintro e wu ⟨x, lu, rfl, hxs, hru, hun, hgu⟩
    have HUT := hide hun
    have hxs2 : x.size ≤ 1048576 := by omega
    replace HS := hide (HS.out.read hgw hgu hru)
    clear r0 rl HUN hxs hru hun hgu
    have HRN := hide (readNum_any x wu hxs2 (HLY.out wu HS.out.gr))
    clear hxs2
    go_wp2_with fail
    refine HRN.out.mono ?_
    rintro e wn ⟨⟨nn, rfl, hnb, hnn⟩, hbn⟩
    have HNN := hide hnn
    have HNW := hide (show (Lit.int .i64 nn).wf = true from wfiR hnb.1 hnb.2)
    replace HS := hide (HS.out.below hgw hbn)
    clear HRN hnn hnb hbn
    obtain ⟨ok, hok⟩ : ∃ ok, (numOf x).isSome = ok := ⟨_, rfl⟩
    rw [hok]
    have HOK := hide hok
    clear hok
    go_upto_region 5 with fail
    have r0 := HS.out.rb.cell 0
    have rl := HS.out.rb.lt
    have l0 := HS.out.lb.cell 0
    have ll := HS.out.lb.lt
    obtain ⟨hbc, hbf⟩ := HS.out.rd.cells
    have lg := HS.out.rd.lt
    have q0 := HS.out.kb.cell 0
    have p0 := HS.out.kb.frozen 0
    have q1 := HS.out.kb.cell 1
    have p1 := HS.out.kb.frozen 1
    have q2 := HS.out.kb.cell 2
    have p2 := HS.out.kb.frozen 2
    have q3 := HS.out.kb.cell 3
    have p3 := HS.out.kb.frozen 3
    have q4 := HS.out.kb.cell 4
    have p4 := HS.out.kb.frozen 4
    have z0 := HS.out.zb.cell 0
    have y0 := HS.out.zb.frozen 0
    have z1 := HS.out.zb.cell 1
    have y1 := HS.out.zb.frozen 1
    have z2 := HS.out.zb.cell 2
    have y2 := HS.out.zb.frozen 2
    have z3 := HS.out.zb.cell 3
    have y3 := HS.out.zb.frozen 3
    have z4 := HS.out.zb.cell 4
    have y4 := HS.out.zb.frozen 4
    have lk := HS.out.kb.lt
    have lz := HS.out.zb.lt
    go_region
    clear r0 rl l0 ll hbc hbf lg q0 p0 q1 p1 q2 p2 q3 p3 q4 p4 z0 y0 z1 y1 z2 y2 z3 y3 z4 y4 lk lz
    replace HS := hide ((HS.out.set hgw 0 (.int .i64 1)).set hgw 1 (.int .i64 nn))
    replace HS := hide (HS.out.read hgw (grownBy_setCell _ ⟨g, 1, none⟩ _) (HS.out.rd.setFail (!ok)))
    replace HS := hide (HS.out.drew hgw)
    generalize hw9 : (((wn.setCell ⟨w.heap.size + 3, 0, none⟩ (.int .i64 1)).setCell ⟨w.heap.size + 3, 1, none⟩ (.int .i64 nn)).setCell ⟨g, 1, none⟩ (.bool (!ok))).drew = w9
    rw [hw9] at HS
    clear hw9
    have r0 := HS.out.rb.cell 0
    have rl := HS.out.rb.lt
    have l0 := HS.out.lb.cell 0
    have ll := HS.out.lb.lt
    obtain ⟨hbc, hbf⟩ := HS.out.rd.cells
    have lg := HS.out.rd.lt
    have q0 := HS.out.kb.cell 0
    have p0 := HS.out.kb.frozen 0
    have q1 := HS.out.kb.cell 1
    have p1 := HS.out.kb.frozen 1
    have q2 := HS.out.kb.cell 2
    have p2 := HS.out.kb.frozen 2
    have q3 := HS.out.kb.cell 3
    have p3 := HS.out.kb.frozen 3
    have q4 := HS.out.kb.cell 4
    have p4 := HS.out.kb.frozen 4
    have z0 := HS.out.zb.cell 0
    have y0 := HS.out.zb.frozen 0
    have z1 := HS.out.zb.cell 1
    have y1 := HS.out.zb.frozen 1
    have z2 := HS.out.zb.cell 2
    have y2 := HS.out.zb.frozen 2
    have z3 := HS.out.zb.cell 3
    have y3 := HS.out.zb.frozen 3
    have z4 := HS.out.zb.cell 4
    have y4 := HS.out.zb.frozen 4
    have lk := HS.out.kb.lt
    have lz := HS.out.zb.lt
    go_wp2
    refine bodyPost_ret (ret_row rfl _ _ (w.heap.size + 2) 26 [.int .i64 1, .int .i64 nn, .string .empty, .slice none 0 0, .slice none 0 0] (HS.out.zb.setAll [.int .i64 1, .int .i64 nn, .string .empty, .slice none 0 0, .slice none 0 0] rfl) _ rfl Tryz.underlying26 rfl (by kernel_rfl)) rfl ?_
    exact HEND.out _ (.mk 1 nn .empty [] []) _ [] lu (!ok) HS.out.zb.lt (tleaf_ow (s := 1) (n := nn) (x := .empty) _ (by decide) HNW.out (by decide)) (New.nil _ _) HS.out.rd HS.out.gr (by rw [← HOK.out]; exact numPaid HUT.out) (numHeadJ HNO1.out HNO2.out HNO3.out HNO4.out HNO5.out HNO6.out HNO7.out (by rw [← HOK.out]; exact numTaken_of HUT.out HNN.out)) (fun _ => by first | rfl | trivial)
theorem treeRdI_any (hpart4 : ∀ (f' lv : Nat), lv + 1 + f' = 7 → 1 ≤ lv → TreeRdI f' → ∀ (w : World) (g : Nat), Lay w → 5 < g → g < w.heap.size → PartAll4 w g lv) (hpart5 : ∀ (f' lv : Nat), lv + 1 + f' = 7 → 1 ≤ lv → TreeRdI f' → ∀ (w : World) (g : Nat), Lay w → 5 < g → g < w.heap.size → PartAll5 w g lv) : ∀ f, TreeRdI f
  | 0 => treeRdI_of 0 (fun f' e => by cases e) hpart4 hpart5
  | f + 1 => treeRdI_of (f + 1) (fun f' e => by injection e with e; subst e; exact treeRdI_any hpart4 hpart5 f) hpart4 hpart5
end Go.Proofs.YtnaecdoeldoipaaGreatDoor
