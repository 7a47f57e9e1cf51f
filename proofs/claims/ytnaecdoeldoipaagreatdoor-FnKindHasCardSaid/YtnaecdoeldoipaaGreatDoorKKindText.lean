/-
  strings.Builder as this program's text has it: what copyCheck, WriteByte, WriteString and String do. The text of a schema: what the program's write and the reference's l2Text make.
-/
import Derived.Shelf.Strings.BuilderK
import Derived.Test.YtnaecdoeldoipaaGreatDoorKDTree
import Derived.Test.YtnaecdoeldoipaaGreatDoorKKid
set_option linter.unusedVariables false
set_option linter.unusedSimpArgs false
namespace Go.Proofs.YtnaecdoeldoipaaGreatDoor
open Go.ChangeShapes Go.WideShapes Go.ChangeAt Go.RowKit

set_option maxHeartbeats 1000000 in
set_option maxRecDepth 100000 in
theorem copyCheck_used (b : Nat) (w : World) (h0 : w.cell? ⟨b, 0, none⟩ = some (.pointer (some ⟨b, 0, none⟩))) :
    Calls Tryz.prog 147 #[.pointer (some ⟨b, 0, none⟩)] w fun e w' => e = .returned (.tuple #[]) ∧ w' = w := by
  obtain ⟨j, hj, _⟩ := Option.map_eq_some_iff.1 (show (Tryz.prog.info? 107).map (·.size) = some 2 by kernel_rfl)
  go_enter Tryz.func147, Tryz.ntmps147
  go_wp2
  rw [Lib.run_neq_ptr_same w _ Tryz.underlying105 hj]
  go_wp2
  go_end0
  exact ⟨rfl, rfl⟩

set_option maxHeartbeats 1000000 in
set_option maxRecDepth 100000 in
theorem copyCheck_fresh (b : Nat) (w : World) (h0 : w.cell? ⟨b, 0, none⟩ = some (.pointer none)) (hsh : w.shape? b = some (107, 2)) (hfz : w.frozen? ⟨b, 0, none⟩ = false) :
    Calls Tryz.prog 147 #[.pointer (some ⟨b, 0, none⟩)] w fun e w' => e = .returned (.tuple #[]) ∧ w' = w.setCell ⟨b, 0, none⟩ (.pointer (some ⟨b, 0, none⟩)) := by
  obtain ⟨j, hj, hjs⟩ := Option.map_eq_some_iff.1 (show (Tryz.prog.info? 107).map (·.size) = some 2 by kernel_rfl)
  have hlies : liesAt Tryz.prog Tryz.prog.depth 107 (2 / Tryz.prog.cellsOf 107) 0 107 1 = true := by kernel_rfl
  go_enter Tryz.func147, Tryz.ntmps147
  go_wp2
  rw [Lib.run_to_unsafe w ⟨b, 0, none⟩ Tryz.underlying105 Tryz.underlying152 hj (by rw [hjs]; decide) hsh (Nat.zero_lt_succ 1)]
  simp only [Result.andThen]
  rw [Oper.upon_value]
  go_wp2
  rw [run_callFunc_extern Tryz.func162 (by kernel_rfl) (by kernel_rfl) (by kernel_rfl) (e := Extern.AbiNoEscape.same) (by kernel_rfl)]
  rw [Lib.run_noEscape]
  simp only [Result.andThen]
  rw [Oper.upon_value]
  go_wp2
  rw [Lib.run_from_unsafe w ⟨b, 0, none⟩ Tryz.underlying152 Tryz.underlying105 hj hsh hlies]
  simp only [Result.andThen]
  rw [Oper.upon_value]
  go_wp2
  go_end0
  exact ⟨rfl, rfl⟩

theorem copyCheck_k (B b : Nat) (bs : List Value) (w : World) (h : Lib.IsBuilderF 107 5 B b bs w) :
    Calls Tryz.prog 147 #[.pointer (some ⟨b, 0, none⟩)] w fun e w' => e = .returned (.tuple #[]) ∧ (Lib.BuilderAtF 107 5 B b (.pointer (some ⟨b, 0, none⟩)) bs w' ∧ Below B w w' ∧ Lib.OthersKept 5 (some b) w w') := by
  rcases h with h | h
  · refine (copyCheck_fresh b w h.cell0 h.shape h.frozen0).mono ?_
    rintro e w' ⟨rfl, rfl⟩
    exact ⟨rfl, h.used _, (Below.refl B w).setCell (p := ⟨b, 0, none⟩) h.1 _, (Lib.OthersKept.refl _ _ w).setCell ⟨b, 0, none⟩ rfl _⟩
  · refine (copyCheck_used b w h.cell0).mono ?_
    rintro e w' ⟨rfl, rfl⟩
    exact ⟨rfl, h, Below.refl B _, Lib.OthersKept.refl _ _ _⟩

theorem byteInfo : (Tryz.prog.info? 5).map (fun i => (i.zero, i.size, i.bytes)) = some (some (.int .u8 0), 1, 1) := by kernel_rfl
set_option maxHeartbeats 2000000 in
set_option maxRecDepth 100000 in
theorem writeByte_k (B b : Nat) (bs : List Value) (c : Int) (w : World) (h : Lib.IsBuilderF 107 5 B b bs w) (hlen : bs.length + 1 ≤ 140737488355328) (hBw : B ≤ w.heap.size) :
    Calls Tryz.prog 133 #[.pointer (some ⟨b, 0, none⟩), .int .u8 c] w fun e w' => e = .returned .nilIface ∧ (Lib.BuilderAtF 107 5 B b (.pointer (some ⟨b, 0, none⟩)) (bs ++ [.int .u8 c]) w' ∧ Below B w w' ∧ Lib.OthersKept 5 (some b) w w') := by
  obtain ⟨i0, hi, hz0, hz1, hz2⟩ := info_parts byteInfo
  go_enter Tryz.func133, Tryz.ntmps133
  go_wp2_with (go_at_call 147; refine (copyCheck_k B b bs _ h).mono ?_)
  rintro e w1 ⟨rfl, h1, hb1, hk1⟩
  obtain ⟨hB, v, hbk, hown, hne⟩ := h1
  have c0 : w1.cell? ⟨b, 0, none⟩ = some (.pointer (some ⟨b, 0, none⟩)) := by rw [Lib.cell_of_heap hbk]; rfl
  have c1 : w1.cell? ⟨b, 1, none⟩ = some v := by rw [Lib.cell_of_heap hbk]; rfl
  go_wp2_with (at_builtin; refine wpList_append_ownF _ rfl _ _ 22 rfl B 5 i0 (.int .u8 0) 1 1 Tryz.underlying22 hi hz0 hz1 hz2 rfl (by decide) _ _ _ rfl (hown.alloc _) ⟨w1.heap.size, 0, none⟩ 1 1 [.int .u8 c] rfl rfl ?c1 ?c2 ?c3 ?c4 ?c5 ?_)
  case c1 =>
    intro j u hj
    match j, hj with
    | 0, hj => simp at hj; subst hj; simp [Addr.add]
  case c2 => intro u hu; simp at hu; subst hu; rfl
  case c3 => unfold maxLen; omega
  case c4 => omega
  case c5 => have := hb1.size; simp; omega
  intro v' w2 hown' hgrow _
  have hlt : b < w1.heap.size := by
    rcases Nat.lt_or_ge b w1.heap.size with h' | h'
    · exact h'
    · simp [Array.getElem?_eq_none h'] at hbk
  have hb2 : w2.heap[b]? = some (.cells #[.pointer (some ⟨b, 0, none⟩), v] 107 (0, 0)) := by
    rw [hgrow.block b (by simp; omega) (fun e => hne e.symm), Lib.alloc_old w1 _ b hlt]
    exact hbk
  have d0 : w2.cell? ⟨b, 0, none⟩ = some (.pointer (some ⟨b, 0, none⟩)) := by rw [Lib.cell_of_heap hb2]; rfl
  have d1 : w2.cell? ⟨b, 1, none⟩ = some v := by rw [Lib.cell_of_heap hb2]; rfl
  have f1 : w2.frozen? ⟨b, 1, none⟩ = false := Lib.frozen_of_heap hb2 1
  obtain ⟨g, cap, rfl⟩ : ∃ g cap, v' = .slice (some ⟨g, 0, none⟩) (bs.length + 1) cap := by
    rcases hown'.2 with ⟨_, h0⟩ | ⟨g, cap, cur, fz, hv, _⟩
    · omega
    · exact ⟨g, cap, hv⟩
  go_wp2
  go_ret
  refine ⟨rfl, ?_, ?_, ((hk1.alloc _).grown hgrow (Lib.ownsRowF_kind (hown.alloc _))).setCell ⟨b, 1, none⟩ rfl _⟩
  · exact Lib.BuilderAtF.put (T := 107) (e := 5) hB hb2 (bs' := bs ++ [.int .u8 c]) (by simpa using hown') (by decide)
  · exact ((hb1.alloc (by have := hb1.size; omega) _).grown hgrow (by have := hb1.size; simp; omega) (fun k hk => (hown.lt k hk).1)).setCell (p := ⟨b, 1, none⟩) hB _
set_option maxHeartbeats 2000000 in
set_option maxRecDepth 100000 in
theorem writeString_k (B b : Nat) (bs : List Value) (s : ByteArray) (w : World) (h : Lib.IsBuilderF 107 5 B b bs w) (hlen : bs.length + s.size ≤ 140737488355328) (hBw : B ≤ w.heap.size) :
    Calls Tryz.prog 132 #[.pointer (some ⟨b, 0, none⟩), .string s] w fun e w' => e = .returned (.tuple #[.int .i64 s.size, .nilIface]) ∧ (Lib.BuilderAtF 107 5 B b (.pointer (some ⟨b, 0, none⟩)) (bs ++ Lib.strCells s) w' ∧ Below B w w' ∧ Lib.OthersKept 5 (some b) w w') := by
  obtain ⟨i0, hi, hz0, hz1, hz2⟩ := info_parts byteInfo
  go_enter Tryz.func132, Tryz.ntmps132
  go_wp2_with (go_at_call 147; refine (copyCheck_k B b bs _ h).mono ?_)
  rintro e w1 ⟨rfl, h1, hb1, hk1⟩
  obtain ⟨hB, v, hbk, hown, hne⟩ := h1
  have c0 : w1.cell? ⟨b, 0, none⟩ = some (.pointer (some ⟨b, 0, none⟩)) := by rw [Lib.cell_of_heap hbk]; rfl
  have c1 : w1.cell? ⟨b, 1, none⟩ = some v := by rw [Lib.cell_of_heap hbk]; rfl
  go_wp2_with (at_builtin; refine Lib.wpList_append_own_stringF _ rfl _ _ 22 9 rfl B 5 i0 Tryz.underlying22 Tryz.underlying9 hi hz0 hz1 hz2 _ _ _ rfl hown s rfl ?c3 ?c4 ?c5 ?_)
  case c3 => unfold maxLen; omega
  case c4 => omega
  case c5 => have := hb1.size; omega
  intro v' w2 hown' hgrow _
  have hlt : b < w1.heap.size := by
    rcases Nat.lt_or_ge b w1.heap.size with h' | h'
    · exact h'
    · simp [Array.getElem?_eq_none h'] at hbk
  have hb2 : w2.heap[b]? = some (.cells #[.pointer (some ⟨b, 0, none⟩), v] 107 (0, 0)) := by
    rw [hgrow.block b hlt (fun e => hne e.symm)]
    exact hbk
  have d0 : w2.cell? ⟨b, 0, none⟩ = some (.pointer (some ⟨b, 0, none⟩)) := by rw [Lib.cell_of_heap hb2]; rfl
  have d1 : w2.cell? ⟨b, 1, none⟩ = some v := by rw [Lib.cell_of_heap hb2]; rfl
  have f1 : w2.frozen? ⟨b, 1, none⟩ = false := Lib.frozen_of_heap hb2 1
  obtain ⟨ao, n', cap, rfl⟩ : ∃ ao n' cap, v' = .slice ao n' cap := by
    rcases hown'.2 with ⟨hv, _⟩ | ⟨g, cap, cur, fz, hv, _⟩
    · exact ⟨_, _, _, hv⟩
    · exact ⟨_, _, _, hv⟩
  go_wp2
  go_ret2
  refine ⟨rfl, ?_, ?_, (hk1.grown hgrow (Lib.ownsRowF_kind hown)).setCell ⟨b, 1, none⟩ rfl _⟩
  · exact Lib.BuilderAtF.put (T := 107) (e := 5) hB hb2 (bs' := bs ++ Lib.strCells s) (by simpa [Lib.strCells_length] using hown') (by decide)
  · exact (hb1.grown hgrow (by have := hb1.size; omega) (fun k hk => (hown.lt k hk).1)).setCell (p := ⟨b, 1, none⟩) hB _
open Go.Shelf in
def bldRen : Go.Shelf.Ren := ⟨fun | 169 => 96 | n => n, fun | 70 => 105 | 9 => 9 | 0 => 0 | 72 => 107 | 37 => 22 | 127 => 132 | 3 => 3 | 5 => 5 | n => n, fun | n => n⟩
open Go.Shelf in
theorem bldLays : Go.Proofs.Lays.n169 Tryz.prog bldRen := {
  mixed := by kernel_rfl
  f169 := Tryz.func96.trans (congrArg some (by kernel_rfl))
  t0 := Tryz.underlying0
  a0 := Tryz.isAgg0
  z0 := Tryz.sizeOf0
  v0 := Tryz.zeroValue0
  t3 := Tryz.underlying3
  a3 := Tryz.isAgg3
  z3 := Tryz.sizeOf3
  v3 := Tryz.zeroValue3
  t9 := Tryz.underlying9
  a9 := Tryz.isAgg9
  z9 := Tryz.sizeOf9
  v9 := Tryz.zeroValue9
  t37 := Tryz.underlying22
  a37 := Tryz.isAgg22
  z37 := Tryz.sizeOf22
  v37 := Tryz.zeroValue22
  t70 := Tryz.underlying105
  a70 := Tryz.isAgg105
  z70 := Tryz.sizeOf105
  v70 := Tryz.zeroValue105
  t72 := Tryz.underlying107
  a72 := Tryz.isAgg107
  z72 := Tryz.sizeOf107
  v72 := Tryz.zeroValue107
  t127 := Tryz.underlying132
  a127 := Tryz.isAgg132
  z127 := Tryz.sizeOf132
  v127 := Tryz.zeroValue132 }
open Go.Shelf in
theorem bldExtra : Go.Proofs.Builder.Extra Tryz.prog bldRen := {
  sizeBuilder := by kernel_rfl
  liesBuilder := by kernel_rfl
  t5 := Tryz.underlying5
  a5 := Tryz.isAgg5
  z5 := Tryz.sizeOf5
  v5 := Tryz.zeroValue5
  infoByte := by kernel_rfl
  cellsByte := by kernel_rfl
  sizeByte := by kernel_rfl
  neB5 := by decide }
theorem bldString_any (B b : Nat) (l : List UInt8) (w : World) (h : Lib.IsBuilderF 107 5 B b (Lib.byteCells l) w) (hBw : B ≤ w.heap.size) :
    Calls Tryz.prog 96 #[.pointer (some ⟨b, 0, none⟩)] w fun e w' => e = .returned (.string ⟨l.toArray⟩) ∧ (Lib.IsBuilderF 107 5 B b (Lib.byteCells l) w' ∧ Below B w w' ∧ Lib.OthersKept 5 (some b) w w') :=
  Any.Builder_String_any_k bldLays bldExtra B b l w h hBw

/-! ### The same over whole texts -/
def Bld (w : World) (b : Nat) (s : ByteArray) : Prop := Lib.IsBuilderF 107 5 b b (Lib.strCells s) w
structure BK (b : Nat) (w w' : World) : Prop where
  below : Below b w w'
  others : Lib.OthersKept 5 (some b) w w'
theorem BK.refl (b : Nat) (w : World) : BK b w w := ⟨Below.refl _ _, Lib.OthersKept.refl _ _ _⟩
theorem BK.trans {b : Nat} {a w w' : World} (h : BK b a w) (k : BK b w w') : BK b a w' := ⟨h.below.trans k.below, h.others.trans k.others⟩
theorem BK.alloc {b : Nat} {a w : World} (h : BK b a w) (hb : b ≤ w.heap.size) (o : Obj) : BK b a (w.alloc o) := ⟨h.below.alloc hb o, h.others.alloc o⟩
theorem BK.drew {b : Nat} {a w : World} (h : BK b a w) : BK b a w.drew := ⟨h.below.drew, h.others.drew⟩
theorem BK.row {b g : Nat} {w w' : World} {e : TypeId} {cs : List Value} (h : BK b w w') (hr : Row w g e cs) (hg : g ≠ b) (he : e ≠ 5) : Row w' g e cs :=
  h.others g _ hr (fun e => hg (Option.some.inj e)) (fun c fz e => by injection e with e1 e2 e3; exact he e2)
theorem Bld.alloc {b : Nat} {w : World} {s : ByteArray} (h : Bld w b s) (o : Obj) : Bld (w.alloc o) b s := Lib.IsBuilderF.alloc h o
theorem Bld.lt {b : Nat} {w : World} {s : ByteArray} (h : Bld w b s) : b < w.heap.size := h.elim (fun x => x.lt) (fun x => x.lt)
theorem Bld.new (w : World) : Bld (w.alloc (.cells #[.pointer none, .slice none 0 0] 107)) w.heap.size .empty := Lib.IsBuilderF.of (Lib.fresh_isBuilder 107 5 w)
theorem strCells_append (a b : ByteArray) : Lib.strCells (a ++ b) = Lib.strCells a ++ Lib.strCells b := by simp [Lib.strCells]
theorem writeByte_b (b : Nat) (s : ByteArray) (c : UInt8) (z : Int) (w : World) (hz : z = c.toNat) (h : Bld w b s) (hl : s.size + 1 ≤ 140737488355328) :
    Calls Tryz.prog 133 #[.pointer (some ⟨b, 0, none⟩), .int .u8 z] w fun e w' => e = .returned .nilIface ∧ Bld w' b (s ++ ⟨#[c]⟩) ∧ BK b w w' := by
  subst hz
  refine (writeByte_k b b _ _ w h (by rw [Lib.strCells_length]; exact hl) (Nat.le_of_lt h.lt)).mono ?_
  rintro e w' ⟨rfl, h1, h2, h3⟩
  exact ⟨rfl, .inr (by rw [strCells_append]; exact h1), h2, h3⟩
theorem writeString_b (b : Nat) (s t : ByteArray) (w : World) (h : Bld w b s) (hl : s.size + t.size ≤ 140737488355328) :
    Calls Tryz.prog 132 #[.pointer (some ⟨b, 0, none⟩), .string t] w fun e w' => e = .returned (.tuple #[.int .i64 t.size, .nilIface]) ∧ Bld w' b (s ++ t) ∧ BK b w w' := by
  refine (writeString_k b b _ _ w h (by rw [Lib.strCells_length]; exact hl) (Nat.le_of_lt h.lt)).mono ?_
  rintro e w' ⟨rfl, h1, h2, h3⟩
  exact ⟨rfl, .inr (by rw [strCells_append]; exact h1), h2, h3⟩
theorem bldString_b (b : Nat) (s : ByteArray) (w : World) (h : Bld w b s) :
    Calls Tryz.prog 96 #[.pointer (some ⟨b, 0, none⟩)] w fun e w' => e = .returned (.string s) ∧ BK b w w' := by
  refine (bldString_any b b s.data.toList w h (Nat.le_of_lt h.lt)).mono ?_
  rintro e w' ⟨rfl, _, h2, h3⟩
  exact ⟨rfl, h2, h3⟩
end Go.Proofs.YtnaecdoeldoipaaGreatDoor
set_option linter.unusedVariables false
set_option linter.unusedSimpArgs false
namespace Go.Proofs.YtnaecdoeldoipaaGreatDoor
open Go.ChangeShapes Go.WideShapes Go.ChangeAt Go.RowKit

def comma (b : Bool) : ByteArray := if b then ⟨#[]⟩ else ⟨#[44]⟩
mutual
def Kind.text : Kind → ByteArray
  | .mk s ns ks => if s = 1 then ⟨#[110, 117, 109]⟩ else if s = 2 then ⟨#[116, 101, 120, 116]⟩ else if s = 3 then ⟨#[102, 108, 97, 103]⟩
    else if s = 4 then ⟨#[91]⟩ ++ Kind.text1 ks ++ ⟨#[93]⟩ else if s = 6 then ⟨#[63]⟩ ++ Kind.text1 ks
    else ⟨#[123]⟩ ++ Kind.textS true ns ks ++ ⟨#[125]⟩
def Kind.text1 : List Kind → ByteArray
  | [] => .empty
  | k :: _ => k.text
def Kind.textS : Bool → List ByteArray → List Kind → ByteArray
  | b, n :: ns, k :: ks => comma b ++ (n ++ ⟨#[58]⟩) ++ k.text ++ Kind.textS false ns ks
  | _, _, _ => .empty
end
theorem Kind.text_eq (k : Kind) : k.text = if k.sort = 1 then ⟨#[110, 117, 109]⟩ else if k.sort = 2 then ⟨#[116, 101, 120, 116]⟩ else if k.sort = 3 then ⟨#[102, 108, 97, 103]⟩
    else if k.sort = 4 then ⟨#[91]⟩ ++ Kind.text1 k.kids ++ ⟨#[93]⟩ else if k.sort = 6 then ⟨#[63]⟩ ++ Kind.text1 k.kids
    else ⟨#[123]⟩ ++ Kind.textS true k.names k.kids ++ ⟨#[125]⟩ := by cases k; rw [Kind.text]; rfl
theorem ba_assoc (a b c : ByteArray) : a ++ b ++ c = a ++ (b ++ c) := ByteArray.append_assoc
theorem ba_nil_app (a : ByteArray) : (⟨#[]⟩ : ByteArray) ++ a = a := ByteArray.empty_append
theorem ba_app_nil (a : ByteArray) : a ++ .empty = a := ByteArray.append_empty
theorem comma_size (b : Bool) : (comma b).size ≤ 1 := by cases b <;> decide

/-- one more name with its schema -/
theorem Kind.textS_snoc : ∀ (ns : List ByteArray) (ks : List Kind) (b : Bool) (j : Nat) (h : j < ns.length) (h' : j < ks.length),
    Kind.textS b (ns.take (j + 1)) (ks.take (j + 1)) = Kind.textS b (ns.take j) (ks.take j) ++ (comma (b && j == 0) ++ (ns[j] ++ ⟨#[58]⟩) ++ ks[j].text)
  | n :: ns, k :: ks, b, 0, _, _ => by
    simp only [List.take_succ_cons, List.take_zero, Kind.textS, List.getElem_cons_zero, ba_app_nil, beq_self_eq_true, Bool.and_true]
    exact (ba_nil_app _).symm
  | n :: ns, k :: ks, b, j + 1, h, h' => by
    have ih := Kind.textS_snoc ns ks false j (by simpa using h) (by simpa using h')
    simp only [List.take_succ_cons, Kind.textS, List.getElem_cons_succ] at ih ⊢
    rw [ih]
    simp [ba_assoc]

theorem Kind.textS_size : ∀ (ns : List ByteArray) (ks : List Kind) (b : Bool), ns.length = ks.length → (∀ i (h : i < ns.length), ns[i].size ≤ 8) → (∀ k ∈ ks, k.text.size + 10 ≤ 14 * k.parts) →
    (Kind.textS b ns ks).size ≤ 14 * Kind.partsS ks
  | [], [], b, _, _, _ => by simp [Kind.textS]
  | n :: ns, k :: ks, b, h, hn, hk => by
    have h1 := Kind.textS_size ns ks false (by simpa using h) (fun i hi => by have := hn (i + 1) (by simpa using hi); simpa using this) (fun x hx => hk x (by simp [hx]))
    have h2 := hk k (by simp)
    have h3 := hn 0 (by simp)
    have h4 := comma_size b
    simp only [List.getElem_cons_zero] at h3
    simp only [Kind.textS, ByteArray.size_append, Kind.partsS]
    have e : (ByteArray.mk #[58]).size = 1 := rfl
    omega
  | [], _ :: _, _, h, _, _ => by simp at h
  | _ :: _, [], _, h, _, _ => by simp at h

theorem Kind.goodS_mem : ∀ (l : List Kind) (lv : Nat), Kind.goodS l lv → ∀ x ∈ l, x.good lv
  | x :: r, lv, h, y, hy => by
    simp only [Kind.goodS] at h
    rcases List.mem_cons.1 hy with rfl | hy
    · exact h.1
    · exact Kind.goodS_mem r lv h.2 y hy

theorem Kind.text_size : ∀ (k : Kind) (lv : Nat), k.good lv → k.text.size + 10 ≤ 14 * k.parts := by
  intro k
  refine Kind.ind (P := fun k => ∀ lv, k.good lv → k.text.size + 10 ≤ 14 * k.parts) (fun k ih => ?_) k
  intro lv h
  have hg := (Kind.good_iff _ _).1 h
  have hp := k.parts_eq
  have hk : ∀ x ∈ k.kids, x.text.size + 10 ≤ 14 * x.parts := fun x hx => ih x hx (lv + 1) (Kind.goodS_mem _ _ hg.2.2 x hx)
  rw [k.text_eq]
  have h1 : k.kids.length = 1 → (Kind.text1 k.kids).size + 10 ≤ 14 * Kind.partsS k.kids := by
    intro hl
    match hh : k.kids, hl with
    | [x], _ =>
      have := hk x (by rw [hh]; simp)
      simp only [Kind.text1, Kind.partsS]
      omega
  have e1 : (ByteArray.mk #[91]).size = 1 := rfl
  have e2 : (ByteArray.mk #[93]).size = 1 := rfl
  have e3 : (ByteArray.mk #[63]).size = 1 := rfl
  have e4 : (ByteArray.mk #[123]).size = 1 := rfl
  have e5 : (ByteArray.mk #[125]).size = 1 := rfl
  have e6 : (ByteArray.mk #[110, 117, 109]).size = 3 := rfl
  have e7 : (ByteArray.mk #[116, 101, 120, 116]).size = 4 := rfl
  have e8 : (ByteArray.mk #[102, 108, 97, 103]).size = 4 := rfl
  split
  · omega
  split
  · omega
  split
  · omega
  split
  · have := h1 (by have := hg.2.1; rcases k.shape_iff.1 this with h | h | h <;> omega)
    simp only [ByteArray.size_append]; omega
  split
  · have := h1 (by have := hg.2.1; rcases k.shape_iff.1 this with h | h | h <;> omega)
    simp only [ByteArray.size_append]; omega
  · have hsh : k.sort = 5 ∧ NamesOk k.names ∧ k.names.length = k.kids.length := by
      rcases k.shape_iff.1 hg.2.1 with h | h | h
      · omega
      · omega
      · exact h
    have := Kind.textS_size k.names k.kids true hsh.2.2 (fun i hi => (hsh.2.1 i hi).1.2.1) hk
    simp only [ByteArray.size_append]; omega
end Go.Proofs.YtnaecdoeldoipaaGreatDoor
