/-
  The draws of the reference: a record's bytes, records and their frames.
-/
import Derived.Test.YtbjblchhenmgjaaDrawT
import Derived.Test.YtbjblchhenmgjaaLog
import Derived.Test.YtbjblchhenmgjaaFrames
set_option linter.unusedVariables false
set_option linter.unusedSimpArgs false
namespace Go.Proofs.Ytbjblchhenmgjaa
open Go.ChangeShapes Go.WideShapes Go.ChangeAt Go.RowKit

def dataEnds : List ByteArray := [⟨#[]⟩, ⟨#[97]⟩, ⟨#[10]⟩, ⟨#[115, 101, 97, 108, 32, 49, 32, 49, 32, 49, 32, 49, 10, 111, 112, 101, 110, 32, 49, 32, 49, 10, 101, 110, 100, 10]⟩, ⟨#[0, 0]⟩]
theorem dataEnds_le : ∀ x ∈ dataEnds, x.size ≤ 30 := by
  intro x hx
  simp only [dataEnds, List.mem_cons, List.not_mem_nil, or_false] at hx
  rcases hx with rfl | rfl | rfl | rfl | rfl <;> decide
def DataOut (g : Nat) (L : List UInt8) (k : Nat) (w : World) (e : Ending) (w' : World) : Prop :=
  ∃ (o : ByteArray) (k' : Nat), e = .returned (.string o) ∧ o.size ≤ 2000 ∧ k' ≤ k + 3 ∧ RdD w' g L k' ∧ w.grownBy w' (some g)
set_option maxRecDepth 100000 in
set_option maxHeartbeats 1000000 in
theorem l45Data_any {L : List UInt8} {k g : Nat} {w : World} (h : RdD w g L k) (hk : k ≤ 900000000) (i : Nat) (hi : i ≤ 1000000000) :
    Calls Try.prog 184 #[.pointer (some ⟨g, 0, none⟩), .int .i64 (i : Int)] w (DataOut g L k w) := by
  have hlg := h.lt
  have HP := hide (pick_any h (n := 14) (by omega) (by omega) (by omega))
  clear h
  go_enter Try.func184, Try.ntmps184
  go_wp2_with fail
  refine HP.out.mono ?_
  rintro e w2 ⟨r, rfl, hr, h2, hg2⟩
  have H2 := hide h2
  have HG := hide hg2
  have lg2 := h2.lt
  clear h2 hg2 HP
  by_cases r0 : r = 0
  · subst r0
    go_wp2
    go_ret
    exact ⟨.empty, k + 1, rfl, by decide, by omega, H2.out, HG.out⟩
  by_cases r1 : r = 1
  · subst r1
    have HP := hide (pick_any H2.out (n := 3) (by omega) (by omega) (by omega))
    go_wp2_with fail
    refine HP.out.mono ?_
    rintro e w3 ⟨q, rfl, hq, h3, hg3⟩
    obtain ⟨m, hm⟩ : ∃ m : Nat, (2000 : Int) - (q : Int) * 900 = (m : Int) := ⟨2000 - q * 900, by omega⟩
    have hmb : m ≤ 2000 := by omega
    have HM := hide (many_any ⟨#[121]⟩ m w3 rfl (by omega))
    have H3 := hide h3
    have HG3 := hide (only_trans HG.out hg3)
    clear h3 hg3 HP
    go_wp2_with fail
    refine HM.out.mono ?_
    rintro e w4 ⟨o, rfl, ho, rfl⟩
    go_wp2
    go_ret
    exact ⟨o, k + 1 + 1, rfl, by omega, by omega, H3.out, HG3.out⟩
  by_cases r2 : r = 2
  · subst r2
    have HP := hide (pick_any H2.out (n := 10) (by omega) (by omega) (by omega))
    go_wp2_with fail
    refine HP.out.mono ?_
    rintro e w3 ⟨q, rfl, hq, h3, hg3⟩
    obtain ⟨m, hm⟩ : ∃ m : Nat, (250 : Int) + (q : Int) = (m : Int) := ⟨250 + q, by omega⟩
    have hmb : m ≤ 2000 := by omega
    have HM := hide (many_any ⟨#[122]⟩ m w3 rfl (by omega))
    have H3 := hide h3
    have HG3 := hide (only_trans HG.out hg3)
    clear h3 hg3 HP
    go_wp2_with fail
    refine HM.out.mono ?_
    rintro e w4 ⟨o, rfl, ho, rfl⟩
    go_wp2
    go_ret
    exact ⟨o, k + 1 + 1, rfl, by omega, by omega, H3.out, HG3.out⟩
  have i0 : ¬ ((r : Int) = 0) := by omega
  have i1 : ¬ ((r : Int) = 1) := by omega
  have i2 : ¬ ((r : Int) = 2) := by omega
  have HD := hide (specDecN_any i w2 (by omega))
  have HDS := hide (dec_size (i : Int) (by omega) (by omega))
  go_wp2_with fail
  refine HD.out.mono ?_
  rintro e w3 ⟨rfl, hb3⟩
  obtain ⟨d, hd⟩ : ∃ d, dec (i : Int) = d := ⟨_, rfl⟩
  rw [hd]
  have hds : d.size ≤ 20 := by rw [← hd]; exact HDS.out
  have H3 := hide (H2.out.below hb3)
  have HB3 := hide hb3
  have s1 : ¬ (9223372036854775807 < (⟨#[114]⟩ : ByteArray).size + d.size) := by have e : (⟨#[114]⟩ : ByteArray).size = 1 := rfl; omega
  clear hb3 hd HD HDS
  have HOF := hide (of_any (w := w3.alloc (.cells (dataEnds.map Value.string).toArray 9)) (H3.out.below ((Below.refl _ _).alloc (Nat.le_refl _) _)) (by omega) dataEnds w3.heap.size 5 (by decide) (by decide) (by have := H3.out.lt; omega) (by simp) (fun j hj => by
    have h := (Row.new w3 9 (dataEnds.map Value.string)).cell j
    rw [h, List.getElem?_map, List.getElem?_eq_getElem hj]
    rfl))
  have HB4 := hide (show Below w3.heap.size w3 (w3.alloc (.cells (dataEnds.map Value.string).toArray 9)) from (Below.refl _ _).alloc (Nat.le_refl _) _)
  go_wp2_with fail
  refine HOF.out.mono ?_
  rintro e w5 ⟨x, hx, rfl, h5, hg5⟩
  have hxs := dataEnds_le x hx
  have s2 : ¬ (9223372036854775807 < ((⟨#[114]⟩ : ByteArray) ++ d).size + x.size) := by
    have e : (⟨#[114]⟩ : ByteArray).size = 1 := rfl
    rw [ByteArray.size_append, e]
    omega
  have HSZ := hide (show (((⟨#[114]⟩ : ByteArray) ++ d) ++ x).size ≤ 2000 from by
    have e : (⟨#[114]⟩ : ByteArray).size = 1 := rfl
    rw [ByteArray.size_append, ByteArray.size_append, e]
    omega)
  have H5 := hide h5
  have HG5 := hide (show w.grownBy w5 (some g) from only_trans (only_trans (only_trans HG.out (grownBy_below HB3.out (some g))) (grownBy_below HB4.out (some g))) hg5)
  clear h5 hg5 hx HOF
  go_wp2
  go_ret
  exact ⟨_, k + 1 + 1, rfl, HSZ.out, by omega, H5.out, HG5.out⟩
end Go.Proofs.Ytbjblchhenmgjaa
