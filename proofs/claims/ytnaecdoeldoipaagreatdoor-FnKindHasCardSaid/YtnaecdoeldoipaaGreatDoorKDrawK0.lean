/-
  Schemas in memory and their size: what the draws want of the schema's reader, without the reader.
-/
import Derived.Deep.RegionHeld3
import Derived.Deep.RegionLaw
import Derived.Deep.CutRange
import Derived.Deep.DeepCutAuto
import Derived.Test.YtnaecdoeldoipaaGreatDoorKFirst
import Derived.Test.YtnaecdoeldoipaaGreatDoorKKid
import Derived.Test.YtnaecdoeldoipaaGreatDoorKTrL
set_option linter.unusedVariables false
set_option linter.unusedSimpArgs false
namespace Go.Proofs.YtnaecdoeldoipaaGreatDoor
open Go.ChangeShapes Go.WideShapes Go.ChangeAt Go.RowKit

theorem Kind.bulk_leaf (s : Int) : (Kind.mk s [] []).bulk = 0 := rfl
theorem Kind.bulk_one (s : Int) (x : Kind) : (Kind.mk s [] [x]).bulk = 1 + x.bulk := by
  rw [Kind.bulk_eq]
  simp only [Kind.names, Kind.kids, Kind.bulkS, List.length_cons, List.length_nil]
  have : bulkStrs [] = 0 := rfl
  omega

theorem Kind.bulk_form (ns : List ByteArray) (ks : List Kind) : (Kind.mk 5 ns ks).bulk = bulkStrs ns + ks.length + Kind.bulkS ks := Kind.bulk_eq _
theorem kbulkS_snoc (ks : List Kind) (k : Kind) : Kind.bulkS (ks ++ [k]) = Kind.bulkS ks + k.bulk := by
  rw [Kind.bulkS_append]
  simp [Kind.bulkS]
abbrev kindMk (s : Int) : Value → Value → List Value := fun a b => [.int .i64 s, a, b]
/-- a schema as it grows, in its block -/
abbrev KindAt (wr : World) (b : Nat) (s : Int) (v1 : Value) (l1 : List ByteArray) (us1 : List Value) (v2 : Value) (l2 : List Kind) (us2 : List Value) (fi2 : List Nat) : Prop :=
  Two wr b (b + 1) 38 (kindMk s) 9 1 strC v1 l1 us1 [] 38 3 Kind.cells v2 l2 us2 fi2
theorem info_Kind' : (Tryz.prog.info? 38).map (fun i => (i.zero, i.size, i.bytes)) = some (some (.agg #[.int .i64 0, .slice none 0 0, .slice none 0 0]), 3, 56) := by kernel_rfl
theorem kleaf_ow (W : World) (s : Int) (hs : (Lit.int .i64 s).wf = true) : OwC W (Kind.mk s [] []).cells [.int .i64 s, .slice none 0 0, .slice none 0 0] [] :=
  OwC.mKind (x := Kind.mk s [] []) (v1 := .slice none 0 0) (v2 := .slice none 0 0) (f1 := []) (f2 := []) hs (Ow.nil_ W 1 strC) (Ow.nil_ W 3 Kind.cells)
/-- a schema with one kid, whose cells lie in a block of their own -/
theorem kone_ow {W : World} {s : Int} {k : Kind} {us : List Value} {fq : List Nat} (hs : (Lit.int .i64 s).wf = true) (ho : OwC W k.cells us fq) (g : Nat) (hr : Row W g 38 us) :
    OwC W (Kind.mk s [] [k]).cells [.int .i64 s, .slice none 0 0, .slice (some ⟨g, 0, none⟩) 1 1] (g :: fq) := by
  have h2 : Ow W (.s 3 [k].length ([k].flatMap Kind.cells)) (.slice (some ⟨g, 0, none⟩) 1 1) (g :: fq) := by
    unfold Ow
    refine ⟨by simp [Kind.cells_len], _, _, rfl, Nat.le_refl _, by unfold maxLen; omega, .inr ⟨by simp, g, 0, fq, rfl, ?_, rfl⟩⟩
    rw [List.flatMap_singleton]
    exact OwC.row _ ho (fun j u hj => by rw [Nat.zero_add, hr.cell]; exact hj)
  have h := OwC.mKind (x := Kind.mk s [] [k]) (v1 := .slice none 0 0) (f1 := []) hs (Ow.nil_ W 1 strC) h2
  rw [List.nil_append] at h
  exact h
theorem putN_alloc (o : Obj) {g : Nat} : ∀ (vs : List Value) (i : Nat) (w : World), g < w.heap.size → putN (w.alloc o) g i vs = (putN w g i vs).alloc o
  | [], _, _, _ => rfl
  | v :: r, i, w, h => by
    unfold putN
    rw [World.setCell_alloc_past _ _ _ _ h]
    exact putN_alloc o r (i + 1) _ (by simpa [World.setCell] using h)
theorem New.consHi {w : World} {fp : List Nat} {lo g : Nat} (h : New w fp lo) (hg : g ∉ fp) (hl : lo ≤ g) (hu : Unf w g) (hs : g < w.heap.size) : New w (g :: fp) lo :=
  ⟨h.fr.cons hl hs, List.nodup_cons.2 ⟨hg, h.nd⟩, fun b hb => by
    rcases List.mem_cons.1 hb with rfl | hb
    · exact hu
    · exact h.uf b hb⟩
theorem kform_ow {wr : World} {b : Nat} {s : Int} {v1 v2 : Value} {l1 : List ByteArray} {us1 : List Value} {l2 : List Kind} {us2 : List Value} {fi2 : List Nat} (hT : KindAt wr b s v1 l1 us1 v2 l2 us2 fi2) (hs : (Lit.int .i64 s).wf = true) :
    ∃ fq, OwC wr (Kind.mk s l1 l2).cells (kindMk s v1 v2) fq ∧ New wr fq (b + 1) := by
  obtain ⟨p1, p2, o1, o2, hn⟩ := hT.toOw
  exact ⟨p1 ++ p2, OwC.mKind (x := Kind.mk s l1 l2) hs o1 o2, hn⟩
end Go.Proofs.YtnaecdoeldoipaaGreatDoor
