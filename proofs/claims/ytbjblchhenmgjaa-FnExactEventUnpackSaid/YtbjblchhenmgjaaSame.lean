/-
  Rows of bytes that are the same: the reference's l4Same, the program's slices.Equal.
-/
import Derived.Test.YtbjblchhenmgjaaRdrI
set_option linter.unusedVariables false
set_option linter.unusedSimpArgs false
namespace Go.Proofs.Ytbjblchhenmgjaa
open Go.ChangeShapes Go.WideShapes Go.ChangeAt Go.RowKit

theorem Ow.bytesAt {w : World} {l : List UInt8} {A : Option Addr} {c : Nat} {fp : List Nat} (h : Ow w (.s 1 l.length (l.flatMap byteC)) (.slice A l.length c) fp) (hf : Lt fp w.heap.size) : BytesAt w A l.length l := by
  refine ⟨rfl, ?_⟩
  by_cases h0 : l.length = 0
  · exact .inl h0
  · obtain ⟨gb, off, rfl, hg, hl, hc⟩ := bytes_part h hf (Below.refl _ _) 0 l.length (by omega) (by omega)
    simp only [List.drop_zero, Nat.add_zero, List.take_length] at hc
    exact .inr ⟨gb, off, rfl, hg, hc⟩
theorem ba_inj {a b : List UInt8} : ba a = ba b ↔ a = b := by
  constructor
  · intro h
    have := congrArg (fun x => x.data.toList) h
    simpa [ba] using this
  · rintro rfl; rfl
set_option maxRecDepth 100000 in
theorem l4Same_any (a b : List UInt8) (A B : Option Addr) (c d : Nat) (w : World) (ha : BytesAt w A a.length a) (hb : BytesAt w B b.length b) :
    Calls Try.prog 78 #[.slice A a.length c, .slice B b.length d] w fun e w' => e = .returned (.bool (tb (a = b))) ∧ w = w' := by
  have h1 := ha.conv c
  have h2 := hb.conv d
  clear ha hb
  by_cases h : a = b
  · have hx := hide (tb_true h)
    have he : (ba a).toList = (ba b).toList := by rw [h]
    go_enter Try.func78, Try.ntmps78
    clear h
    go_wp2
    go_ret
    exact ⟨by rw [hx.out]; simp [he, Array.getD], rfl⟩
  · have hx := hide (tb_false h)
    have he : ¬ ((ba a).toList = (ba b).toList) := by simpa [ba, ByteArray.toList_eq] using h
    go_enter Try.func78, Try.ntmps78
    clear h
    go_wp2
    go_ret
    exact ⟨by rw [hx.out]; simp [he, Array.getD], rfl⟩
/-- as far as both are the same -/
theorem same_step {a b : List UInt8} (h : a.length = b.length) (n : Nat) (h1 : a.take n = b.take n) (hn : n < a.length) (hn' : n < b.length) (e : a[n] = b[n]) : a.take (n + 1) = b.take (n + 1) := by
  rw [List.take_succ_eq_append_getElem hn, List.take_succ_eq_append_getElem hn', h1, e]
set_option maxRecDepth 100000 in
theorem eqBytes_any (a b : List UInt8) (A B : Option Addr) (c d : Nat) (w : World) (ha : BytesAt w A a.length a) (hb : BytesAt w B b.length b) (hla : a.length ≤ 9223372036854775807) (hlb : b.length ≤ 9223372036854775807) :
    Calls Try.prog 83 #[.slice A a.length c, .slice B b.length d] w fun e w' => e = .returned (.bool (tb (a = b))) ∧ Below w.heap.size w w' := by
  by_cases hl : a.length = b.length
  rotate_left
  · have hx := hide (tb_false (fun h : a = b => hl (by rw [h])))
    have hli : ¬ ((a.length : Int) = (b.length : Int)) := by omega
    have HB := hide (Below.refl w.heap.size w)
    clear ha hb
    go_enter Try.func83, Try.ntmps83
    go_wp2
    go_ret
    exact ⟨by rw [hx.out]; rfl, HB.out⟩
  · have HA := hide ha
    have HBB := hide hb
    have HL := hide hl
    have hli : (a.length : Int) = (b.length : Int) := by omega
    clear ha hb
    go_enter Try.func83, Try.ntmps83
    clear hl
    go_wp2
    go_loopw [13] (fun iv wr => (∃ i : Nat, i ≤ a.length ∧ iv = .int .i64 (i : Int) ∧ a.take i = b.take i) ∧ Below w.heap.size w wr) (fun iv _ => a.length - (intOf iv).toNat)
    case atStart => exact ⟨⟨0, Nat.zero_le _, rfl, rfl⟩, Below.refl _ _⟩
    case round =>
      obtain ⟨⟨i, hi, rfl, he⟩, hb⟩ := hrel
      have HE := hide he
      have HB := hide hb
      clear he hb
      by_cases hlt : i < a.length
      · have hlt2 : i < b.length := by have := HL.out; omega
        obtain ⟨-, h0 | ⟨ga, oa, rfl, hga, hca⟩⟩ := HA.out
        · omega
        obtain ⟨-, h0 | ⟨gb, ob, rfl, hgb, hcb⟩⟩ := HBB.out
        · omega
        obtain ⟨x, hx⟩ : ∃ x, a[i]'hlt = x := ⟨_, rfl⟩
        obtain ⟨y, hy⟩ : ∃ y, b[i]'hlt2 = y := ⟨_, rfl⟩
        have c1 : wr.cell? ⟨ga, oa + i, none⟩ = some (.int .u8 (x.toNat : Int)) := hx ▸ (HB.out.cell (p := ⟨ga, oa + i, none⟩) hga).trans (hca i hlt)
        have c2 : wr.cell? ⟨gb, ob + i, none⟩ = some (.int .u8 (y.toNat : Int)) := hy ▸ (HB.out.cell (p := ⟨gb, ob + i, none⟩) hgb).trans (hcb i hlt2)
        have lga := Nat.lt_of_lt_of_le hga HB.out.size
        have lgb := Nat.lt_of_lt_of_le hgb HB.out.size
        have HST := hide (show x = y → a.take (i + 1) = b.take (i + 1) from fun e => same_step HL.out i HE.out hlt hlt2 (by rw [hx, hy, e]))
        have HNO := hide (show x ≠ y → tb (a = b) = false from fun e => tb_false (fun h => e (by subst h; rw [← hx, ← hy])))
        have HLT := hide (show i < a.length from hlt)
        have hltI : (i : Int) < (a.length : Int) := by omega
        have hltJ : (i : Int) < (b.length : Int) := by omega
        have hxb := x.toNat_lt
        have hyb := y.toNat_lt
        clear hca hcb hx hy
        by_cases hxy : x = y
        · have HS := hide (HST.out hxy)
          subst hxy
          clear HST HNO
          go_wp2
          go_quiet (fail)
          go_wp2
          go_roundw
          case rel => exact ⟨⟨i + 1, HLT.out, by go_num, HS.out⟩, below_drewN HB.out _⟩
          case measure => simp [intOf]; omega
        · have HF := hide (HNO.out hxy)
          have hne : ¬ ((x.toNat : Int) = (y.toNat : Int)) := fun e => hxy (UInt8.toNat_inj.1 (by omega))
          clear HST HNO hxy
          go_wp2
          go_quiet (fail)
          go_wp2
          go_ret
          exact ⟨by rw [HF.out]; rfl, below_drewN HB.out _⟩
      · obtain rfl : i = a.length := by omega
        have HT := hide (show tb (a = b) = true from tb_true (by have h := HE.out; rw [List.take_length, HL.out, List.take_length] at h; exact h))
        go_wp2
        go_ret
        exact ⟨by rw [HT.out]; rfl, HB.out⟩
end Go.Proofs.Ytbjblchhenmgjaa
