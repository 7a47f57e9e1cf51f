/-
  FnExactLogWrites returns true for every input, and leaves its arguments as they were: the program answers as the reference does. No condition.
-/
import Derived.Test.YtddjgbhkfdpffaaGreatDoorRows
import Derived.Test.YtddjgbhkfdpffaaGreatDoorCards
import Derived.Test.YtddjgbhkfdpffaaGreatDoorTie
import Derived.ProofKit
import Derived.LaidMore
import Derived.Lay
import Derived.OpenShut
import Derived.Stop.LaidErr
import Derived.Stop.Joined
import Derived.Shelf.Vars
import Derived.SevenTiedAt
import Derived.Test.YtddjgbhkfdpffaaGreatDoorWRLogAct
import Derived.Test.YtddjgbhkfdpffaaGreatDoorWRDisk
import Derived.Test.YtddjgbhkfdpffaaGreatDoorWRead
import Derived.Test.YtddjgbhkfdpffaaGreatDoorWLawFnExactLogWrites
import Derived.Test.YtddjgbhkfdpffaaGreatDoorWFnExactLogWritesA
set_option linter.unusedVariables false
namespace Go.Proofs.YtddjgbhkfdpffaaGreatDoor.fnExactLogWrites
open Go.ChangeShapes Go.WideShapes Go.ChangeAt Go.RowKit
open Go.ChangeMaps (open_string shut_string)

theorem own : ownKnob Tryz.prog.godebug = none := by kernel_rfl
theorem laidOut : laidOutB Tryz.prog = true := by kernel_rfl

/-- The world in which all is laid meets the condition. -/
theorem start_met (os : Os) (args : Array Value) : laidMetH Tryz.prog Rows.fnExactLogWritesRow.laid ((World.laidAll Tryz.prog os Rows.fnExactLogWritesRow.laid).forCall (fun _ _ => 0) ⟨#[], args, []⟩).memory := by
  rw [MakeChecks.laidMetH_plain _ _ _ (by kernel_rfl)]
  exact laidMet_laidAll _ (by kernel_rfl) (by kernel_rfl)
theorem gt : (Tryz.prog.globals[0]?).map (·.type) = some 219 := by kernel_rfl
/-- What the condition gives the walk: the table's numbers. -/
theorem tab_of_laid {W : World} (h : laidMetH Tryz.prog Rows.fnExactLogWritesRow.laid W) : Tab W := by
  rw [MakeChecks.laidMetH_plain _ _ _ (by kernel_rfl)] at h
  obtain ⟨ps, ⟨g0, t0, cs0, f0, p0, q0, hg0, ht0, hv0, hd0, ⟨g1, t1, cs1, f1, p1, q1, hg1, ht1, hv1, hd1, ⟨g2, t2, cs2, f2, p2, q2, hg2, ht2, hv2, hd2, _, _⟩, _⟩, _⟩, _⟩ := h
  obtain rfl := Option.some.inj (tab_global.symm.trans hg2)
  obtain rfl := Option.some.inj (gt.symm.trans ht2)
  have e := Lib.cells_of_tab (k := .u64) (zs := Lib.pow10Tab) Tryz.underlying219 Tryz.underlying204 (by kernel_rfl) (by kernel_rfl) hd2
  unfold Tab Lib.TabIs
  rw [hv2]
  exact congrArg some (Array.toList_inj.1 (by simpa using e))
theorem cells_es : Tryz.prog.cellsOf 236 = 1 := by kernel_rfl
theorem cells_str : Tryz.prog.cellsOf 9 = 1 := by kernel_rfl
theorem star_err : "*" ++ "errors.errorString" = "*errors.errorString" := by decide
theorem row_err (u : TypeId) (h : Tryz.prog.typeName? 3 u = some "*errors.errorString") : u = 234 :=
  typeName_ptr_named (nm := "errors.errorString") (by rw [star_err]; kernel_rfl) (by kernel_rfl) (by decide) u (by rw [star_err]; exact h)
theorem g_syn : Tryz.prog.globalNamed "strconv.ErrSyntax" = some 1 := by kernel_rfl
theorem gt_syn : (Tryz.prog.globals[1]?).map (·.type) = some 190 := by kernel_rfl
theorem err_syn {W : World} (h : laidMetH Tryz.prog Rows.fnExactLogWritesRow.laid W) : ErrAt W 1 := by
  rw [MakeChecks.laidMetH_plain _ _ _ (by kernel_rfl)] at h
  obtain ⟨a0, s0, hv0, -, -, -⟩ := laid_sentinel h.tail.tail.tail.tail.tail g_syn gt_syn Tryz.underlying190 row_err Tryz.underlying234 Tryz.underlying236 rfl rfl Tryz.underlying9 cells_es cells_str
  exact ⟨_, by have h0 := World.var?_cell g_syn hv0 0; simpa using h0, .inr ⟨_, _, rfl⟩⟩
theorem g_rng : Tryz.prog.globalNamed "strconv.ErrRange" = some 2 := by kernel_rfl
theorem gt_rng : (Tryz.prog.globals[2]?).map (·.type) = some 190 := by kernel_rfl
theorem err_rng {W : World} (h : laidMetH Tryz.prog Rows.fnExactLogWritesRow.laid W) : ErrAt W 2 := by
  rw [MakeChecks.laidMetH_plain _ _ _ (by kernel_rfl)] at h
  obtain ⟨a0, s0, hv0, -, -, -⟩ := laid_sentinel h.tail.tail.tail.tail g_rng gt_rng Tryz.underlying190 row_err Tryz.underlying234 Tryz.underlying236 rfl rfl Tryz.underlying9 cells_es cells_str
  exact ⟨_, by have h0 := World.var?_cell g_rng hv0 0; simpa using h0, .inr ⟨_, _, rfl⟩⟩
theorem low_of {W : World} (h : W.ShapedOpen Tryz.prog) : 7 < W.heap.size := by
  have h0 : (((begin Tryz.prog (fun _ _ => 0) default).world.heap[7]?).bind Obj.row?).isSome = true := by kernel_rfl
  obtain ⟨⟨zero, t⟩, h1⟩ := Option.isSome_iff_exists.1 h0
  obtain ⟨cs, hh, _⟩ := h.1 7 zero t (of_decide_eq_true (by kernel_rfl)) h1
  exact (Array.getElem?_eq_some_iff.1 hh).1
/-- What the walk asks of the variables. -/
theorem lay_of {W : World} (h : laidMetH Tryz.prog Rows.fnExactLogWritesRow.laid W) (hs : W.ShapedOpen Tryz.prog) : Lay W ∧ 7 < W.heap.size :=
  ⟨{
      tab := tab_of_laid h
      syn := err_syn h
      rng := err_rng h
      max := cell_of_shapedOpen_int (zero := #[.int .i64 0]) (t := 3) hs (of_decide_eq_true (by kernel_rfl)) (by kernel_rfl) rfl (by kernel_rfl) (by kernel_rfl) Tryz.underlying3
    }, low_of hs⟩
set_option maxRecDepth 100000 in
theorem lifted (os : Os) (started : os.Started) (H : Type) (enc : TypeId × Value → H) :
    ReturnsInHanded {} Tryz.checked os 4 .any (fun w args => (Rows.fnExactLogWritesSpec.pre enc Tryz.prog Tryz.f4 [] false w args ∧ laidMetH Tryz.prog Rows.fnExactLogWritesRow.laid w) ∧ sizedMet enc Tryz.prog Tryz.f4 (OpenSpec.ofChange Rows.fnExactLogWritesSpec) false w args) (Rows.fnExactLogWritesSpec.post enc Tryz.prog Tryz.f4 false true false false) := by
  suffices hC : ∀ (W : World) (base : Nat) (args : Array Value) (ds gs : List (DataW H)) (before : List MemPlace),
      (∀ (j : Nat) t v, Tryz.f4.params[j]? = some t → args[j]? = some v → Value.okWide Tryz.prog W .any base t v) →
      DataW.Whole enc Tryz.prog Tryz.f4.params.toList Rows.fnExactLogWritesSpec.vars false W args.toList ds gs before →
      laidMetH Tryz.prog Rows.fnExactLogWritesRow.laid W → W.ShapedOpen Tryz.prog →
      Calls Tryz.prog 4 args W fun e W' => ∃ v, e = .returned v ∧ Rows.fnExactLogWritesSpec.post enc Tryz.prog Tryz.f4 false true false false W args v W' by
    refine returnsInHanded_of_calls own started (by kernel_rfl)
      (ChangeSpec.witness_shaped (enc := enc) (C := Tryz.checked) (os := os) (X := fun w _ => laidMetH Tryz.prog Rows.fnExactLogWritesRow.laid w) false (World.laidAll Tryz.prog os Rows.fnExactLogWritesRow.laid) #[.agg #[.slice none 0 0, .slice none 0 0, .slice none 0 0], .agg #[.int .i64 0, .string .empty, .bool false, .int .i64 0, .int .i64 0, .slice none 0 0]] 8 (World.laidAll_os _ _ _) (World.shaped_of_ZipB (by kernel_rfl) (by kernel_rfl)) (by kernel_rfl) (by kernel_rfl) (by kernel_rfl) (start_met os _)) ?_
    intro w tape i _ hsh _ hok hpre hholds
    obtain ⟨_, _, _, fn', hfn', _, _, _, _, hval⟩ := hok
    have e : fn' = Tryz.f4 := Option.some.inj (hfn'.symm.trans Tryz.func4)
    subst e
    obtain ⟨⟨⟨ds, gs, before, hw, hc⟩, hx⟩, hz⟩ := hpre
    refine (hC (w.forCall tape i) w.heap.size i.args ds gs before hval (DataW.Whole.of_heap (by rfl) hw) (laidMetH.of_heap (by rfl) hx) hsh).mono fun e W' ⟨v, he, hp⟩ => ?_
    subst he
    exact ChangeSpec.post_blind hp
  intro W base args ds gs before hval0 hW hL hSO
  have hval : ∀ (j : Nat) t v, Tryz.f4.params[j]? = some t → args[j]? = some v → Value.okWide Tryz.prog W .any base t v := hval0
  have hW' := hW
  obtain ⟨p, q, hA0, hV, rfl, hfz, hnd⟩ := hW
  have hA : DataW.TrodAll enc Tryz.prog W 0 (fun _ => true) true Tryz.f4.params.toList args.toList ds p := hA0
  rw [Tryz.params4] at hA hval
  obtain ⟨v0, vs0, d0, ds0, p0, q0, hargs, rfl, rfl, h0, r0⟩ := trodAll_cons hA
  obtain ⟨v1, vs1, d1, ds1, p1, q1, rfl, rfl, rfl, h1, r1⟩ := trodAll_cons r0
  obtain ⟨rfl, rfl, rfl⟩ := trodAll_nil r1
  obtain rfl : args = #[v0, v1] := by cases args; simp_all
  obtain ⟨rfl, rfl⟩ := trodVars_none hV
  have k0 := h0
  have lt0 : ∀ x ∈ p0, x.block < W.heap.size := by obtain ⟨m, hm⟩ := k0; exact DataW.trod_lt m _ _ _ hm
  have k1 := h1
  have lt1 : ∀ x ∈ p1, x.block < W.heap.size := by obtain ⟨m, hm⟩ := k1; exact DataW.trod_lt m _ _ _ hm
  obtain ⟨us0, rfl, _⟩ := okWide_struct Tryz.underlying26 (hval 0 26 v0 rfl rfl)
  obtain ⟨fuel0, hf0⟩ := h0
  obtain ⟨x0, fp0, ho0, hl0⟩ := Disk_read fuel0 hf0
  obtain ⟨us1, rfl, _⟩ := okWide_struct Tryz.underlying47 (hval 1 47 v1 rfl rfl)
  obtain ⟨fuel1, hf1⟩ := h1
  obtain ⟨x1, fp1, ho1, hl1⟩ := LogAct_read fuel1 hf1
  clear hA0 hval0
  have hgo := lawFnExactLogWrites_any W x0 _ fp0 ho0 hl0 x1 _ fp1 ho1 hl1 (lay_of hL hSO).1 (lay_of hL hSO).2
  refine hgo.mono fun e W' ⟨he, bel⟩ => ?_
  subst he
  exact ⟨_, rfl, _, _, _, [], _, [], hW', trodAll_mk1 (shut_bool Tryz.underlying4 _), (trodAll_cons_mk (Below.trod laidOut (by kernel_rfl) (of_decide_eq_true (by kernel_rfl)) k0 bel lt0) (trodAll_cons_mk (Below.trod laidOut (by kernel_rfl) (of_decide_eq_true (by kernel_rfl)) k1 bel lt1) trodAll_mk0)), rfl, bel.frame _, fun h => by cases h⟩

theorem and_t {a b : Bool} (h : a = true) (k : b = true) : (a && b) = true := by rw [h, k]; rfl
set_option maxRecDepth 100000 in
theorem facts : joinedFacts Tryz.prog 4 Tryz.f4 Rows.fnExactLogWritesSpec Rows.fnExactLogWritesRow = true := (and_t (and_t (and_t (and_t (and_t (and_t (and_t (and_t (and_t (and_t (and_t (and_t (and_t (and_t (and_t (and_t (and_t (and_t (and_t (and_t (and_t (and_t (and_t (and_t (and_t (and_t (and_t (and_t (and_t (and_t (and_t fact1 fact2) fact3) fact4) fact5) fact6) fact7) fact8) fact9) fact10) fact11) fact12) fact13) fact14) fact15) fact16) fact17) fact18) fact19) fact20) fact21) fact22) fact23) fact24) fact25) fact26) fact27) fact28) fact29) fact30) fact31) fact32)
theorem over : Rows.fnExactLogWritesRow.holds Tryz.pinned (OpenSpec.ofChange Rows.fnExactLogWritesSpec) :=
  OpenClaim.holds_of_wide 4 Tryz.f4 rfl rfl rfl rfl rfl rfl rfl ⟨rfl, rfl, rfl, rfl, rfl⟩ rfl rfl rfl rfl rfl (by kernel_rfl) Tryz.func4 facts
    (of_decide_eq_true (by kernel_rfl)) (by unfold Func.isWrapper; first | (rw [if_pos (by decide +kernel)]; kernel_rfl) | (rw [if_neg (by decide +kernel)]; exact ⟨rfl, rfl⟩))
    (fun os started H enc _ => lifted os started H enc)

set_option maxRecDepth 100000 in
theorem proved : Rows.FnExactLogWritesCardSaid :=
  Claim7.holds_tied_plain_at .later [] [.data, .data, .data, .data, .sentinel, .sentinel, .pinned] true (true, "95ef9942df7ea715471f8f3f88ee264750fe91c7159c6701c40b2e55a5e31677") true
    over (fun _ h => by cases h) (by kernel_rfl) (fun _ h => by cases h) fnExactLogWrites_row_tie rfl ⟨rfl, rfl⟩ (by kernel_rfl) rfl
    (fun f fn hf hfn => by
      obtain rfl : f = 4 := Option.some.inj ((show Tryz.prog.funcNamed "loop.example/teagle/laws.FnExactLogWrites" = some 4 by kernel_rfl).symm.trans hf) |>.symm
      obtain rfl : fn = Tryz.f4 := (Option.some.inj (Tryz.func4.symm.trans hfn)).symm
      exact ⟨by kernel_rfl, fun j t ht => by
        have hall : (Tryz.f4.params.toList.all fun u => !Tryz.prog.wantsStandIn u) = true := by kernel_rfl
        have hm : t ∈ Tryz.f4.params.toList := Array.mem_toList_iff.2 (Array.mem_of_getElem? ht)
        exact (show Tryz.prog.wantsStandIn t = false by simpa using List.all_eq_true.1 hall t hm)⟩)
    (by kernel_rfl)
#print axioms proved
end Go.Proofs.YtddjgbhkfdpffaaGreatDoor.fnExactLogWrites
