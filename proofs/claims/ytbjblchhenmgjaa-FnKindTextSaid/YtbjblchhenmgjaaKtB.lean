/-
  Decimals: what strconv.Itoa and the reference's l6Dec make. Decimals: the reference's l6Dec. The draws of the reference: texts. One element of a grown list is written anew, with other inner blocks. The draws of the reference: a schema that is spoilt. When a tree is of a schema: plain definitions. The first tree of a schema that is ok is of it, and has no more parts: the plain law. The draws of the reference: a schema, any. The draws of the reference: a text that is bent.
-/
import Derived.Test.YtbjblchhenmgjaaStr
import Derived.Lib.ItoaNum
import Derived.Test.YtbjblchhenmgjaaRdrI
import Derived.Deep.RegionWith
import Derived.Test.YtbjblchhenmgjaaDraw
import Derived.Test.YtbjblchhenmgjaaApp
import Derived.Test.YtbjblchhenmgjaaDrawS
import Derived.Test.YtbjblchhenmgjaaKindParts
import Derived.Test.YtbjblchhenmgjaaTreeParts
import Derived.Test.YtbjblchhenmgjaaFirst
import Derived.Test.YtbjblchhenmgjaaDrawK
import Derived.Deep.RegionHeld3
import Derived.BigQuiet
set_option linter.unusedVariables false
set_option linter.unusedSimpArgs false
namespace Go.Proofs.Ytbjblchhenmgjaa
open Go.ChangeShapes Go.WideShapes Go.ChangeAt Go.RowKit

def dec (n : Int) : ByteArray := ⟨(Lib.itoa n).toArray⟩
theorem decDigits_len : ∀ (k u : Nat), u < 10 ^ (k + 1) → (Lib.decDigits u).length ≤ k + 1
  | 0, u, h => by
    rw [Lib.decDigits, dif_pos (by simpa using h)]
    simp
  | k + 1, u, h => by
    rw [Lib.decDigits]
    split
    · simp
    · rw [List.length_append]
      have := decDigits_len k (u / 10) (by rw [Nat.pow_succ] at h; omega)
      simp
      omega
theorem dec_size (n : Int) (h1 : -9223372036854775808 ≤ n) (h2 : n ≤ 9223372036854775807) : (dec n).size ≤ 20 := by
  have hs : (dec n).size = (Lib.itoa n).length := by simp [dec, ByteArray.size]
  rw [hs]
  have e10 : (10 : Nat) ^ (18 + 1) = 10000000000000000000 := by decide
  unfold Lib.itoa
  split
  · have := decDigits_len 18 n.natAbs (by rw [e10]; omega)
    simp only [List.length_cons]; omega
  · have := decDigits_len 18 n.toNat (by rw [e10]; omega)
    omega
theorem dec_neg {n : Int} (h : n < 0) : dec n = ⟨#[45]⟩ ++ dec (-n) := by
  unfold dec Lib.itoa
  rw [if_pos h, if_neg (by omega)]
  have e : (-n).toNat = n.natAbs := by omega
  rw [e]
  apply ByteArray.ext
  simp
theorem dec_low {n : Int} (h0 : 0 ≤ n) (h : n < 10) : dec n = ⟨#[UInt8.ofNat (48 + n.toNat)]⟩ := by
  unfold dec Lib.itoa
  rw [if_neg (by omega), Lib.decDigits, dif_pos (by omega)]
theorem dec_high {n : Int} (h : 10 ≤ n) : dec n = dec (n / 10) ++ ⟨#[UInt8.ofNat (48 + (n % 10).toNat)]⟩ := by
  unfold dec Lib.itoa
  rw [if_neg (by omega), if_neg (by omega), Lib.decDigits, dif_neg (by omega)]
  have e1 : (n / 10).toNat = n.toNat / 10 := by omega
  have e2 : (n % 10).toNat = n.toNat % 10 := by omega
  rw [e1, e2]
  apply ByteArray.ext
  simp
end Go.Proofs.Ytbjblchhenmgjaa
set_option linter.unusedVariables false
set_option linter.unusedSimpArgs false
namespace Go.Proofs.Ytbjblchhenmgjaa
open Go.ChangeShapes Go.WideShapes Go.ChangeAt Go.RowKit

theorem conv_oneD {w : World} {g : Nat} {z : Int} {b : UInt8} (c : Nat) (hz : z = (b.toNat : Int)) (hc : w.cell? ⟨g, 0, none⟩ = some (.int .u8 z)) : (convert 22 9 (.slice (some ⟨g, 0, none⟩) 1 c)).run Try.prog w = .ok (.string (ba [b])) w := by
  subst hz
  refine run_convert_bytes_back w 22 9 5 ⟨g, 0, none⟩ c [b] Try.underlying22 Try.underlying5 Try.underlying9 (fun j hj => ?_)
  rw [Addr.add_lit]
  match j, hj with
  | 0, _ => exact hc
theorem size_daD (w : World) (o : Obj) : (w.alloc o).drew.heap.size = w.heap.size + 1 := World.size_alloc w o
theorem ba_one (b : UInt8) : ba [b] = ⟨#[b]⟩ := rfl
def DecN (f : Nat) : Prop := ∀ (n : Nat) (w : World), n < 10 ^ f → n ≤ 4611686018427387904 →
  Calls Try.prog 224 #[.int .i64 (n : Int)] w fun e w' => e = .returned (.string (dec n)) ∧ Below w.heap.size w w'
set_option maxRecDepth 100000 in
set_option maxHeartbeats 2000000 in
theorem decN_of (f : Nat) (ih : ∀ f', f = f' + 1 → DecN f') : DecN f := by
  intro n w hf hn
  have h1 : ¬ ((n : Int) < -9223372036854775807) := by omega
  have h2 : ¬ ((n : Int) < 0) := by omega
  by_cases h10 : n < 10
  · have h10I : (n : Int) < 10 := by omega
    have hs : n + 48 < 256 := by omega
    obtain ⟨b, hb⟩ : ∃ b : UInt8, b = UInt8.ofNat (48 + n) := ⟨_, rfl⟩
    have hbn : (48 : Int) + (n : Int) = (b.toNat : Int) := by rw [hb, u8_nat _ (by omega)]; omega
    have HD := hide (show dec (n : Int) = ba [b] from by rw [dec_low (by omega) h10I, ba_one, hb, Int.toNat_natCast])
    have hcv := fun (u : World) (c : Nat) => conv_oneD (w := u.alloc (.cells #[.int .u8 (b.toNat : Int)] 5)) (g := u.heap.size) (b := b) c rfl (by simp)
    have HB := hide (fun (o : Obj) => (Below.refl w.heap.size w).alloc (Nat.le_refl _) o)
    clear hb ih
    go_enter Try.func224, Try.ntmps224
    go_wp2
    go_ret
    exact ⟨ret_str HD.out.symm, HB.out _⟩
  · obtain ⟨f, rfl⟩ : ∃ f', f = f' + 1 := by
      cases f with
      | zero => simp at hf; omega
      | succ f => exact ⟨f, rfl⟩
    have h10I : ¬ ((n : Int) < 10) := by omega
    obtain ⟨q, hq⟩ : ∃ q, n / 10 = q := ⟨_, rfl⟩
    obtain ⟨d, hd⟩ : ∃ d, n % 10 = d := ⟨_, rfl⟩
    have hqf : q < 10 ^ f := by rw [← hq]; rw [Nat.pow_succ] at hf; omega
    have hqn : q ≤ 4611686018427387904 := by omega
    obtain ⟨b, hb⟩ : ∃ b : UInt8, b = UInt8.ofNat (48 + d) := ⟨_, rfl⟩
    have hbn : b.toNat = 48 + d := by rw [hb]; exact u8_nat _ (by omega)
    have HD := hide (show dec (n : Int) = dec (q : Int) ++ ba [b] from by
      rw [dec_high (by omega), ba_one, hb, show (n : Int) / 10 = (q : Int) by omega, show ((n : Int) % 10).toNat = d by omega])
    have t1 : Int.tdiv (n : Int) 10 = (q : Int) := by rw [← hq]; exact (Int.ofNat_tdiv _ 10).symm
    have t2 : Int.tmod (n : Int) 10 = (d : Int) := by rw [← hd]; exact (Int.ofNat_tmod _ 10).symm
    have t3 : IntKind.i64.wrap (q : Int) = (q : Int) := wrapI _ (by omega) (by omega)
    have t4 : IntKind.i64.wrap (48 + (d : Int)) = (b.toNat : Int) := by rw [wrapI _ (by omega) (by omega)]; omega
    have t5 : IntKind.u8.wrap (b.toNat : Int) = (b.toNat : Int) := by have := b.toNat_lt; rw [IntKind.wrap_u8]; omega
    have hcv1 := fun (u : World) (c : Nat) => conv_oneD (w := u.alloc (.cells #[.int .u8 (b.toNat : Int)] 5)) (g := u.heap.size) (b := b) c rfl (by simp)
    have hcv2 := fun (u : World) (c : Nat) => conv_oneD (w := (u.alloc (.cells #[.int .u8 (b.toNat : Int)] 5)).drew) (g := u.heap.size) (b := b) c rfl (by simp)
    have hszd : (dec (q : Int)).size ≤ 20 := dec_size _ (by omega) (by omega)
    have hba1 : (ba [b]).size = 1 := rfl
    have hns : ¬ (9223372036854775807 < (dec (q : Int)).size + (ba [b]).size) := by omega
    have HI := hide (ih f rfl)
    have HB := hide (fun (o : Obj) => (Below.refl w.heap.size w).alloc (Nat.le_refl _) o)
    clear hb ih hq hd hbn
    go_enter Try.func224, Try.ntmps224
    go_wp2
    go_region_with (first
      | (go_at_call 224; (with_reducible show Calls _ _ _ (World.drew w) _); refine (HI.out q _ hqf hqn).mono ?_; rintro e w2 ⟨rfl, hb2⟩; have hbz := (Below.refl w.heap.size w).drew.trans hb2)
      | (go_at_call 224; (with_reducible show Calls _ _ _ (World.drew (World.alloc w _)) _); refine (HI.out q _ hqf hqn).mono ?_; rintro e w2 ⟨rfl, hb2⟩; have hbz : Below w.heap.size w w2 := ((Below.refl w.heap.size w).alloc (Nat.le_refl _) (.cells #[.int .u8 (b.toNat : Int)] 5)).drew.trans (hb2.mono (by rw [size_daD]; exact Nat.le_succ _)); have RZ := (show Row ((w.alloc (.cells #[.int .u8 (b.toNat : Int)] 5)).drew) w.heap.size 5 [.int .u8 (b.toNat : Int)] from Row.new w _ _).below hb2 (by rw [size_daD]; exact Nat.lt_succ_self _); have hcv3 := fun (c : Nat) => conv_oneD (w := w2) (g := w.heap.size) (b := b) c rfl (RZ.cell 0)))
    all_goals
      go_wp2_with fail
      go_ret
      first
        | exact ⟨ret_str HD.out.symm, hbz⟩
        | exact ⟨ret_str HD.out.symm, hbz.alloc hbz.size _⟩
theorem decN_any : ∀ f, DecN f
  | 0 => decN_of 0 (fun f' e => by cases e)
  | f + 1 => decN_of (f + 1) (fun f' e => by injection e with e; subst e; exact decN_any f)
theorem specDecN_any (n : Nat) (w : World) (hn : n ≤ 4611686018427387904) : Calls Try.prog 224 #[.int .i64 (n : Int)] w fun e w' => e = .returned (.string (dec n)) ∧ Below w.heap.size w w' :=
  decN_any 19 n w (by have e : (10 : Nat) ^ 19 = 10000000000000000000 := by decide
                      omega) hn
end Go.Proofs.Ytbjblchhenmgjaa
set_option linter.unusedVariables false
set_option linter.unusedSimpArgs false
namespace Go.Proofs.Ytbjblchhenmgjaa
open Go.ChangeShapes Go.WideShapes Go.ChangeAt Go.RowKit

theorem half_mul (n s p q : Nat) (hp : n * s = p) (hq : n / 2 * (s + s) = q) : p = n % 2 * s + q := by
  subst hp hq
  have e : n = n % 2 + 2 * (n / 2) := by omega
  calc n * s = (n % 2 + 2 * (n / 2)) * s := by rw [← e]
    _ = n % 2 * s + n / 2 * (s + s) := by rw [Nat.add_mul, Nat.mul_assoc, Nat.mul_comm 2, Nat.mul_assoc, Nat.mul_comm s 2, Nat.two_mul]
set_option maxRecDepth 100000 in
set_option maxHeartbeats 1000000 in
theorem many_any (s : ByteArray) (n : Nat) (w : World) (hs : s.size = 1) (hn : n ≤ 10000) :
    Calls Try.prog 113 #[.string s, .int .i64 (n : Int)] w fun e w' => ∃ o : ByteArray, e = .returned (.string o) ∧ o.size = n ∧ w' = w := by
  go_enter Try.func113, Try.ntmps113
  go_wp2
  go_loopw [0, 1, 5] (fun sv nv ov wr => (∃ (s' : ByteArray) (n' : Nat) (o : ByteArray), sv = .string s' ∧ nv = .int .i64 (n' : Int) ∧ ov = .string o ∧ o.size + n' * s'.size = n ∧ n' ≤ n ∧ s'.size ≤ 20000 ∧ 0 < s'.size) ∧ wr = w) (fun _ nv _ _ => (intOf nv).toNat)
  case atStart => exact ⟨⟨s, n, .empty, rfl, rfl, rfl, by rw [hs]; show 0 + n * 1 = n; omega, Nat.le_refl _, by omega, by omega⟩, rfl⟩
  case round =>
    obtain ⟨⟨s', n', o, rfl, rfl, rfl, he, hnn, hss, hs0⟩, rfl⟩ := hrel
    by_cases h0 : n' = 0
    · subst h0
      have HE := hide (show o.size = n by omega)
      clear he
      go_wp2
      go_ret
      exact ⟨o, rfl, HE.out, rfl⟩
    · obtain ⟨p, hp⟩ : ∃ p, n' * s'.size = p := ⟨_, rfl⟩
      obtain ⟨q, hq⟩ : ∃ q, n' / 2 * (s'.size + s'.size) = q := ⟨_, rfl⟩
      obtain ⟨h, hh⟩ : ∃ h, n' / 2 = h := ⟨_, rfl⟩
      have hm := half_mul n' s'.size p q hp hq
      have hsp : s'.size ≤ p := by rw [← hp]; exact Nat.le_mul_of_pos_left _ (by omega)
      rw [hp] at he
      have hpos : (0 : Int) < (n' : Int) := by omega
      have t1 : Int.tdiv (n' : Int) 2 = (h : Int) := by rw [← hh]; exact (Int.ofNat_tdiv _ 2).symm
      have hhn : h ≤ n' ∧ h < n' := by omega
      have HQ := hide (show h * (s'.size + s'.size) = q by rw [← hh]; exact hq)
      have s1 : ¬ (9223372036854775807 < s'.size + s'.size) := by omega
      have s2 : ¬ (9223372036854775807 < o.size + s'.size) := by omega
      clear hp hq hh
      rcases Nat.mod_two_eq_zero_or_one n' with h2 | h2
      · have t2 : Int.tmod (n' : Int) 2 = 0 := by rw [show ((n' : Int)).tmod 2 = ((n' % 2 : Nat) : Int) from (Int.ofNat_tmod _ 2).symm, h2]; rfl
        rw [h2] at hm
        clear h2
        go_wp2
        go_roundw
        case rel => exact ⟨⟨s' ++ s', h, o, rfl, rfl, rfl, by rw [ByteArray.size_append, HQ.out]; omega, by omega, by rw [ByteArray.size_append]; omega, by rw [ByteArray.size_append]; omega⟩, by trivial⟩
        case measure => simp [intOf]; omega
      · have t2 : Int.tmod (n' : Int) 2 = 1 := by rw [show ((n' : Int)).tmod 2 = ((n' % 2 : Nat) : Int) from (Int.ofNat_tmod _ 2).symm, h2]; rfl
        rw [h2] at hm
        clear h2
        go_wp2
        go_roundw
        case rel => exact ⟨⟨s' ++ s', h, o ++ s', rfl, rfl, rfl, by rw [ByteArray.size_append, ByteArray.size_append, HQ.out]; omega, by omega, by rw [ByteArray.size_append]; omega, by rw [ByteArray.size_append]; omega⟩, by trivial⟩
        case measure => simp [intOf]; omega
def OfOut (g : Nat) (L : List UInt8) (k : Nat) (l : List ByteArray) (w : World) (e : Ending) (w' : World) : Prop :=
  ∃ x ∈ l, e = .returned (.string x) ∧ RdD w' g L (k + 1) ∧ w.grownBy w' (some g)
set_option maxRecDepth 100000 in
theorem of_any {L : List UInt8} {k g : Nat} {w : World} (h : RdD w g L k) (hk : k ≤ 1000000000) (l : List ByteArray) (gl c : Nat) (hl0 : 1 ≤ l.length) (hl : l.length ≤ 1000) (hgl : gl ≠ g) (hlt : gl < w.heap.size) (hc : ∀ j (hj : j < l.length), w.cell? ⟨gl, j, none⟩ = some (.string l[j])) :
    Calls Try.prog 112 #[.pointer (some ⟨g, 0, none⟩), .slice (some ⟨gl, 0, none⟩) l.length c] w (OfOut g L k l w) := by
  have HP := hide (pick_any h hk hl0 (by omega))
  have HC := hide hc
  clear h hc
  go_enter Try.func112, Try.ntmps112
  go_wp2_with fail
  refine HP.out.mono ?_
  rintro e w2 ⟨r, rfl, hr, h2, hg2⟩
  have hcell := (World.cell?_of_block (a := ⟨gl, r, none⟩) (hg2.block gl hlt (fun e => by injection e with e; exact hgl e))).trans (HC.out r hr)
  have HM := hide (List.getElem_mem hr)
  have H2 := hide h2
  have HG := hide hg2
  have hl2 := Nat.lt_of_lt_of_le hlt hg2.size
  generalize l[r] = x at *
  clear h2 hg2
  have hrI : (r : Int) < (l.length : Int) := by omega
  go_wp2
  go_ret
  exact ⟨x, HM.out, rfl, H2.out, HG.out⟩
end Go.Proofs.Ytbjblchhenmgjaa
set_option linter.unusedVariables false
set_option linter.unusedSimpArgs false
namespace Go.Proofs.Ytbjblchhenmgjaa
open Go.ChangeShapes Go.WideShapes Go.ChangeAt Go.RowKit

theorem OwC.splitK {w : World} : ∀ {l r : List D} {us : List Value} {fp : List Nat}, OwC w (l ++ r) us fp → ∃ u1 u2 f1 f2, us = u1 ++ u2 ∧ fp = f1 ++ f2 ∧ OwC w l u1 f1 ∧ OwC w r u2 f2 ∧ u1.length = l.length
  | [], r, us, fp, h => ⟨[], us, [], fp, rfl, rfl, by simp [OwC], h, rfl⟩
  | d :: l, r, us, fp, h => by
    cases us with
    | nil => exact h.elim
    | cons y us =>
      obtain ⟨f1, f2, h1, h2, rfl⟩ := h
      obtain ⟨u1, u2, g1, g2, rfl, rfl, h3, h4, h5⟩ := OwC.splitK h2
      exact ⟨y :: u1, u2, f1 ++ g1, g2, rfl, by rw [List.append_assoc], ⟨f1, g1, h1, h3, rfl⟩, h4, by simp [h5]⟩
theorem set3 (u1 u2 : List Value) (p q r a b c : Value) : (((u1 ++ ([p, q, r] ++ u2)).set u1.length a).set (u1.length + 1) b).set (u1.length + 1 + 1) c = u1 ++ ([a, b, c] ++ u2) := by
  rw [List.set_append_right _ _ (Nat.le_refl _), List.set_append_right _ _ (by omega), List.set_append_right _ _ (by omega)]
  simp [show u1.length + 1 + 1 - u1.length = 2 by omega]
theorem OwS.putAt {α : Type} {w : World} {B : Nat} {e : TypeId} {f : α → List D} {g n c : Nat} {l1 l2 : List α} {x y : α} {u1 u0 u2 ux : List Value} {f1 f0 f2 fx : List Nat}
    (h : OwS w B e 3 f (.slice (some ⟨g, 0, none⟩) n c) (l1 ++ x :: l2) (u1 ++ (u0 ++ u2)) (f1 ++ (f0 ++ f2)))
    (c1 : OwC w (l1.flatMap f) u1 f1) (c2 : OwC w (l2.flatMap f) u2 f2) (h0 : u0.length = 3) (hx : OwC w (f y) ux fx) (hxl : ux.length = 3) (hn : New w fx B)
    (hfx : ∀ b ∈ fx, b ∈ f0 ∨ (b ∉ f1 ∧ b ∉ f2 ∧ b ≠ g)) :
    OwS (putN w g u1.length ux) B e 3 f (.slice (some ⟨g, 0, none⟩) n c) (l1 ++ y :: l2) (u1 ++ (ux ++ u2)) (f1 ++ (fx ++ f2)) := by
  obtain ⟨p, q, r, rfl⟩ : ∃ p q r, u0 = [p, q, r] := by
    match u0, h0 with
    | [p, q, r], _ => exact ⟨p, q, r, rfl⟩
  obtain ⟨a, b, d, rfl⟩ : ∃ p q r, ux = [p, q, r] := by
    match ux, hxl with
    | [p, q, r], _ => exact ⟨p, q, r, rfl⟩
  have hgr := setN_grown (w0 := w) [a, b, d] u1.length (grown_refl w (some g))
  have hgo := h.out g rfl
  have hg1 : g ∉ f1 := fun hm => hgo (by simp [hm])
  have hg0 : g ∉ f0 := fun hm => hgo (by simp [hm])
  have hg2 : g ∉ f2 := fun hm => hgo (by simp [hm])
  have hgx : g ∉ fx := fun hm => by
    rcases hfx g hm with h | h
    · exact hg0 h
    · exact h.2.2 rfl
  have hnd := h.new.nd
  have hnn : New w (f1 ++ (fx ++ f2)) B := by
    rw [List.nodup_append] at hnd
    obtain ⟨n1, n2, n3⟩ := hnd
    rw [List.nodup_append] at n2
    obtain ⟨n4, n5, n6⟩ := n2
    refine ⟨fun b hb => ?_, List.nodup_append.2 ⟨n1, List.nodup_append.2 ⟨hn.nd, n5, fun b hb b' hb' e => ?_⟩, fun b hb b' hb' e => ?_⟩, fun b hb => ?_⟩
    · simp only [List.mem_append] at hb
      rcases hb with hb | hb | hb
      · exact h.new.fr b (by simp [hb])
      · exact hn.fr b hb
      · exact h.new.fr b (by simp [hb])
    · subst e
      rcases hfx b hb with h | h
      · exact n6 b h b hb' rfl
      · exact h.2.1 hb'
    · subst e
      rcases List.mem_append.1 hb' with hb' | hb'
      · rcases hfx b hb' with h | h
        · exact n3 b hb b (by simp [h]) rfl
        · exact h.1 hb
      · exact n3 b hb b (by simp [hb']) rfl
    · simp only [List.mem_append] at hb
      rcases hb with hb | hb | hb
      · exact h.new.uf b (by simp [hb])
      · exact hn.uf b hb
      · exact h.new.uf b (by simp [hb])
  have hcc : OwC w ((l1 ++ y :: l2).flatMap f) (u1 ++ ([a, b, d] ++ u2)) (f1 ++ (fx ++ f2)) := by
    rw [List.flatMap_append, List.flatMap_cons]
    exact c1.append (hx.append c2)
  have hno : ∀ k, some g = some k → k ∉ f1 ++ (fx ++ f2) := fun k e hm => by
    injection e with e
    subst e
    simp only [List.mem_append] at hm
    rcases hm with hm | hm | hm
    · exact hg1 hm
    · exact hgx hm
    · exact hg2 hm
  obtain rfl : n = (l1 ++ x :: l2).length := by
    obtain ⟨A, c', e⟩ := h.form
    injection e
  have s1 := (h.own.stored u1.length a).1
  have s2 := (s1.stored (u1.length + 1) b).1
  have s3 := (s2.stored (u1.length + 1 + 1) d).1
  rw [set3] at s3
  refine ⟨?_, hcc.grown' hgr hnn.lt hno, hnn.grown hgr hno, fun k e => hno k e⟩
  have hl : (l1 ++ y :: l2).length = (l1 ++ x :: l2).length := by simp
  rw [hl]
  exact s3
theorem New.leftK {w : World} {f1 f2 : List Nat} {lo : Nat} (h : New w (f1 ++ f2) lo) : New w f1 lo :=
  ⟨fun b hb => h.fr b (List.mem_append.2 (.inl hb)), (List.nodup_append.1 h.nd).1, fun b hb => h.uf b (List.mem_append.2 (.inl hb))⟩
theorem New.rightK {w : World} {f1 f2 : List Nat} {lo : Nat} (h : New w (f1 ++ f2) lo) : New w f2 lo :=
  ⟨fun b hb => h.fr b (List.mem_append.2 (.inr hb)), (List.nodup_append.1 h.nd).2.1, fun b hb => h.uf b (List.mem_append.2 (.inr hb))⟩
/-- a slice that is read, with what lies below its elements -/
theorem Ow.srcNew {α : Type} {w : World} {f : α → List D} {k : Nat} {l : List α} {A : Option Addr} {n c lo : Nat} {fp : List Nat} (h : Ow w (.s k l.length (l.flatMap f)) (.slice A n c) fp) (hn : New w fp lo) :
    ∃ us f2, OwC w (l.flatMap f) us f2 ∧ SrcAt w us A n c ∧ f2 ⊆ fp ∧ New w f2 lo := by
  unfold Ow at h
  obtain ⟨hl, A', c', e, _, _, h⟩ := h
  injection e with e1 e2 e3
  subst e1 e2 e3
  rcases h with ⟨h0, rfl⟩ | ⟨h0, g, off, f1, rfl, ho, rfl⟩
  · have hl0 : l = [] := List.eq_nil_of_length_eq_zero h0
    subst hl0
    refine ⟨[], [], by simp [OwC], ?_, by simp, New.nil _ _⟩
    cases A with
    | none => exact .inl ⟨rfl, rfl⟩
    | some ad => exact .inr ⟨ad, rfl, fun j u hu => by simp at hu⟩
  · obtain ⟨us, hu, hc, ho⟩ := ho.cells
    refine ⟨us, f1, ho, .inr ⟨_, rfl, fun j u hj => ?_⟩, fun b hb => List.mem_cons_of_mem _ hb, New.rightK (f1 := [g]) hn⟩
    rw [Addr.add_lit]
    exact hc j u hj
/-- an empty slice with a block of its own, under a lower bound -/
theorem OwS.emptyL {α : Type} (w : World) (B : Nat) (hB : B ≤ w.heap.size) (e : TypeId) (k : Nat) (f : α → List D) : OwS (w.alloc (.cells #[] e)) B e k f (.slice (some ⟨w.heap.size, 0, none⟩) 0 0) [] [] [] :=
  ⟨World.ownsRow_made w #[] 0 hB (by unfold maxLen; omega) (by simp), by simp [OwC], New.nil _ _, fun g h => by simp⟩
/-- a schema whose kids lie in a grown list -/
theorem sp_kids_fin {W : World} {s : Int} {ns : List ByteArray} {ks : List Kind} {V1 V : Value} {f1 fi : List Nat} {us : List Value} {lo : Nat} {e : TypeId} (hs : (Lit.int .i64 s).wf = true) (o1 : Ow W (.s 1 ns.length (ns.flatMap strC)) V1 f1) (n1 : New W f1 lo)
    (h : OwS W lo e 3 Kind.cells V ks us fi) (hd : ∀ g ∈ f1, V.ownBlock ≠ some g ∧ g ∉ fi) : ∃ fq, OwC W (Kind.mk s ns ks).cells [.int .i64 s, V1, V] fq ∧ New W fq lo ∧ ∀ b ∈ fq, b ∈ f1 ∨ V.ownBlock = some b ∨ b ∈ fi := by
  obtain ⟨p2, o2, n2, s2⟩ := h.toOw'
  refine ⟨f1 ++ p2, OwC.mKind (x := Kind.mk s ns ks) hs o1 o2, ⟨n1.fr.app n2.fr, List.nodup_append.2 ⟨n1.nd, n2.nd, fun a ha b hb e => ?_⟩, fun g hg => ?_⟩, fun b hb => ?_⟩
  · subst e
    rcases s2 a hb with h | h
    · exact (hd a ha).1 h
    · exact (hd a ha).2 h
  · rcases List.mem_append.1 hg with hg | hg
    · exact n1.uf g hg
    · exact n2.uf g hg
  · rcases List.mem_append.1 hb with hb | hb
    · exact .inl hb
    · exact .inr (s2 b hb)
/-- a schema whose names lie in a grown list -/
theorem sp_names_fin {W : World} {s : Int} {ns : List ByteArray} {ks : List Kind} {V V2 : Value} {f2 : List Nat} {us : List Value} {lo : Nat} {e : TypeId} (hs : (Lit.int .i64 s).wf = true) (o2 : Ow W (.s 3 ks.length (ks.flatMap Kind.cells)) V2 f2) (n2 : New W f2 lo)
    (h : OwS W lo e 1 strC V ns us []) (hd : ∀ g ∈ f2, V.ownBlock ≠ some g) : ∃ fq, OwC W (Kind.mk s ns ks).cells [.int .i64 s, V, V2] fq ∧ New W fq lo ∧ ∀ b ∈ fq, V.ownBlock = some b ∨ b ∈ f2 := by
  obtain ⟨p1, o1, n1, s1⟩ := h.toOw'
  refine ⟨p1 ++ f2, OwC.mKind (x := Kind.mk s ns ks) hs o1 o2, ⟨n1.fr.app n2.fr, List.nodup_append.2 ⟨n1.nd, n2.nd, fun a ha b hb e => ?_⟩, fun g hg => ?_⟩, fun b hb => ?_⟩
  · subst e
    rcases s1 a ha with h | h
    · exact hd a hb h
    · cases h
  · rcases List.mem_append.1 hg with hg | hg
    · exact n1.uf g hg
    · exact n2.uf g hg
  · rcases List.mem_append.1 hb with hb | hb
    · rcases s1 b hb with h | h
      · exact .inl h
      · cases h
    · exact .inr hb
/-- the cells of a grown list -/
theorem OwS.cellAt {α : Type} {w : World} {B : Nat} {e : TypeId} {k : Nat} {f : α → List D} {g n c : Nat} {l : List α} {us : List Value} {fi : List Nat} (h : OwS w B e k f (.slice (some ⟨g, 0, none⟩) n c) l us fi) {j : Nat} {u : Value} (hj : us[j]? = some u) :
    w.cell? ⟨g, j, none⟩ = some u ∧ w.frozen? ⟨g, j, none⟩ = false ∧ g < w.heap.size := by
  rcases h.own.2 with ⟨hx, hn⟩ | ⟨g', cap, cur, hv, hB, hg, h1, h2, h3, h4⟩
  · cases hx
  · injection hv with e1 e2 e3
    injection e1 with e1
    injection e1 with e1
    subst e1
    have hrow : Row w g e cur.toList := by simpa [Row] using hg
    refine ⟨?_, hrow.frozen j, hrow.lt⟩
    rw [hrow.cell]
    rw [← h4, List.getElem?_take] at hj
    split at hj
    · exact hj
    · cases hj
/-- a grown list that is not empty has a block -/
theorem OwS.block {α : Type} {w : World} {B : Nat} {e : TypeId} {k : Nat} {f : α → List D} {A : Option Addr} {n c : Nat} {l : List α} {us : List Value} {fi : List Nat} (h : OwS w B e k f (.slice A n c) l us fi) (hl : 0 < l.length) :
    ∃ g, A = some ⟨g, 0, none⟩ ∧ n = l.length ∧ B ≤ g ∧ g < w.heap.size := by
  rcases h.own.2 with ⟨hx, hn⟩ | ⟨g', cap, cur, hv, hB, hg, h1, h2, h3, h4⟩
  · omega
  · injection hv with e1 e2 e3
    have hrow : Row w g' e cur.toList := by simpa [Row] using hg
    exact ⟨g', e1, e2, hB, hrow.lt⟩
theorem sp_split_at {α : Type} : ∀ (l : List α) (i : Nat), i < l.length → ∃ l1 y l2, l = l1 ++ y :: l2 ∧ l1.length = i
  | x :: l, 0, _ => ⟨[], x, l, rfl, rfl⟩
  | x :: l, i + 1, h => by
    obtain ⟨l1, y, l2, e, hl⟩ := sp_split_at l i (by simpa using h)
    exact ⟨x :: l1, y, l2, by rw [e]; rfl, by simp [hl]⟩
end Go.Proofs.Ytbjblchhenmgjaa
set_option linter.unusedVariables false
set_option linter.unusedSimpArgs false
namespace Go.Proofs.Ytbjblchhenmgjaa
open Go.ChangeShapes Go.WideShapes Go.ChangeAt Go.RowKit

def SpoilOut (g : Nat) (L : List UInt8) (k N M lo : Nat) (fp : List Nat) (w : World) (e : Ending) (w' : World) : Prop :=
  ∃ (y : Kind) (us : List Value) (fq : List Nat) (k' : Nat), e = .returned (.agg us.toArray) ∧ OwC w' y.cells us fq ∧ New w' fq lo ∧ (∀ b ∈ fq, b ∈ fp ∨ w.heap.size ≤ b) ∧ y.bulk ≤ N ∧ k' ≤ k + M ∧ RdD w' g L k' ∧ w.grownBy w' (some g)
def SpoilK (x : Kind) : Prop := ∀ (us : List Value) (fp : List Nat) (L : List UInt8) (k g lo : Nat) (w : World), OwC w x.cells us fp → New w fp lo → g < lo → lo ≤ w.heap.size → RdD w g L k → x.bulk ≤ 1000000 → k + 3 * x.bulk ≤ 90000000 →
  Calls Try.prog 187 #[.pointer (some ⟨g, 0, none⟩), .agg us.toArray] w (SpoilOut g L k (x.bulk + 1000) (3 * x.bulk + 100) lo fp w)
/-- the state of a spoiling: the box, the result's block, what the schema's slices hold, the source -/
structure SpS (x : Kind) (A1 : Option Addr) (c1 : Nat) (A2 : Option Addr) (c2 : Nat) (f1 f2 : List Nat) (lo g : Nat) (L : List UInt8) (w W : World) (k' : Nat) : Prop where
  X : Row W w.heap.size 47 [.int .i64 x.sort, .slice A1 x.names.length c1, .slice A2 x.kids.length c2]
  Z : Row W (w.heap.size + 1) 47 [.int .i64 0, .slice none 0 0, .slice none 0 0]
  o1 : Ow W (.s 1 x.names.length (x.names.flatMap strC)) (.slice A1 x.names.length c1) f1
  o2 : Ow W (.s 3 x.kids.length (x.kids.flatMap Kind.cells)) (.slice A2 x.kids.length c2) f2
  hn : New W (f1 ++ f2) lo
  rd : RdD W g L k'
  gr : w.grownBy W (some g)
theorem SpS.tick {x : Kind} {A1 : Option Addr} {c1 : Nat} {A2 : Option Addr} {c2 : Nat} {f1 f2 : List Nat} {lo g : Nat} {L : List UInt8} {w W W' : World} {k' k2 : Nat}
    (h : SpS x A1 c1 A2 c2 f1 f2 lo g L w W k') (hg : W.grownBy W' (some g)) (hr : RdD W' g L k2) (hgl : g < lo) (hlo : lo ≤ w.heap.size) : SpS x A1 c1 A2 c2 f1 f2 lo g L w W' k2 := by
  have hgf : ∀ q, some g = some q → q ∉ f1 ++ f2 := fun q e hm => by
    injection e with e
    subst e
    have := (h.hn.fr _ hm).1
    omega
  exact ⟨h.X.grown hg (fun e => by injection e with e; omega), h.Z.grown hg (fun e => by injection e with e; omega),
    Ow.frame _ (fun q hm => hg.block q (h.hn.lt _ (List.mem_append.2 (.inl hm))) (fun e => hgf q e.symm (List.mem_append.2 (.inl hm)))) h.o1,
    Ow.frame _ (fun q hm => hg.block q (h.hn.lt _ (List.mem_append.2 (.inr hm))) (fun e => hgf q e.symm (List.mem_append.2 (.inr hm)))) h.o2,
    h.hn.grown hg hgf, hr, only_trans h.gr hg⟩
/-- what lies below the box and its result stays when only later blocks turn -/
theorem SpS.low9 {x : Kind} {A1 : Option Addr} {c1 : Nat} {A2 : Option Addr} {c2 : Nat} {f1 f2 : List Nat} {lo g : Nat} {L : List UInt8} {w W W' : World} {k' B : Nat}
    (h : SpS x A1 c1 A2 c2 f1 f2 lo g L w W k') (hb : Below B W W') (hB : w.heap.size + 2 ≤ B) (hf : Lt (f1 ++ f2) w.heap.size) (hgw : g < w.heap.size) (hgl : g < lo) (hlo : lo ≤ w.heap.size) : SpS x A1 c1 A2 c2 f1 f2 lo g L w W' k' :=
  ⟨h.X.below hb (by omega), h.Z.below hb (by omega), h.o1.below hb (hf.left.mono (by omega)), h.o2.below hb (hf.right.mono (by omega)),
    h.hn.below hb (hf.mono (by omega)), h.rd.low hb (by omega), only_low h.gr hb (by omega)⟩
theorem wf8 {q : Nat} (h : q < 8) : (Lit.int .i64 (q : Int)).wf = true := by
  obtain rfl | rfl | rfl | rfl | rfl | rfl | rfl | rfl : q = 0 ∨ q = 1 ∨ q = 2 ∨ q = 3 ∨ q = 4 ∨ q = 5 ∨ q = 6 ∨ q = 7 := by omega
  all_goals decide
/-- the state of the way v = 3: a form that grows -/
structure SpF (g : Nat) (L : List UInt8) (w : World) (B k3 : Nat) (wr : World) (j : Nat) (v1 : Value) (ns : List ByteArray) (us1 : List Value) (v2 : Value) (ks : List Kind) (us2 : List Value) (k' : Nat) : Prop where
  two : Two wr w.heap.size B 47 (kindMk 5) 9 1 strC v1 ns us1 [] 47 3 Kind.cells v2 ks us2 []
  rd : RdD wr g L k'
  hn : ns.length = j
  hk : ks.length = j
  bn : bulkStrs ns ≤ 22 * j
  bk : Kind.bulkS ks = 0
  pk : k' ≤ k3 + j
  gr : w.grownBy wr (some g)
  z : Row wr (w.heap.size + 1) 47 [.int .i64 0, .slice none 0 0, .slice none 0 0]
  sz : B ≤ wr.heap.size
  hj : j ≤ 40
theorem SpF.tick {g : Nat} {L : List UInt8} {w : World} {B k3 : Nat} {wr w5 : World} {j : Nat} {v1 : Value} {ns : List ByteArray} {us1 : List Value} {v2 : Value} {ks : List Kind} {us2 : List Value} {k' : Nat}
    (h : SpF g L w B k3 wr j v1 ns us1 v2 ks us2 k') (hg : wr.grownBy w5 (some g)) (hr : RdD w5 g L (k' + 1)) (hgw : g < w.heap.size) : SpF g L w B (k3 + 1) w5 j v1 ns us1 v2 ks us2 (k' + 1) :=
  ⟨h.two.far hg hgw, hr, h.hn, h.hk, h.bn, h.bk, by have := h.pk; omega, only_trans h.gr hg, h.z.grown hg (fun e => by injection e with e; omega), Nat.le_trans h.sz hg.size, h.hj⟩
/-- with a name more than kids -/
structure SpN (g : Nat) (L : List UInt8) (w : World) (B : Nat) (wr : World) (v1 : Value) (ns : List ByteArray) (us1 : List Value) (v2 : Value) (ks : List Kind) (us2 : List Value) (k' : Nat) : Prop where
  two : Two wr w.heap.size B 47 (kindMk 5) 9 1 strC v1 ns us1 [] 47 3 Kind.cells v2 ks us2 []
  rd : RdD wr g L k'
  gr : w.grownBy wr (some g)
  z : Row wr (w.heap.size + 1) 47 [.int .i64 0, .slice none 0 0, .slice none 0 0]
  sz : B ≤ wr.heap.size
/-- the state of the way v = 4: a schema that is wrapped -/
structure SpW (g : Nat) (L : List UInt8) (w : World) (B k5 : Nat) (wr : World) (n : Nat) (y : Kind) (us : List Value) (fq : List Nat) : Prop where
  X : Row wr w.heap.size 47 us
  ow : OwC wr y.cells us fq
  nw : New wr fq B
  z : Row wr (w.heap.size + 1) 47 [.int .i64 0, .slice none 0 0, .slice none 0 0]
  rd : RdD wr g L k5
  gr : w.grownBy wr (some g)
  bk : y.bulk + n ≤ 6
  sz : B ≤ wr.heap.size
theorem SpW.wrap {g : Nat} {L : List UInt8} {w : World} {B k5 : Nat} {wr : World} {n m : Nat} {y : Kind} {us : List Value} {fq : List Nat} (h : SpW g L w B k5 wr n y us fq) (hm : n = m + 1) {W1 : World} (hb : Below wr.heap.size wr W1) {kb : Nat} (hkb : wr.heap.size ≤ kb)
    (hr : Row W1 kb 47 us) {s : Int} (hs : (Lit.int .i64 s).wf = true) (hgw : g < w.heap.size) (hB : w.heap.size + 2 ≤ B) :
    SpW g L w B k5 (putN W1 w.heap.size 0 [.int .i64 s, .slice none 0 0, .slice (some ⟨kb, 0, none⟩) 1 1]) m (.mk s [] [y]) [.int .i64 s, .slice none 0 0, .slice (some ⟨kb, 0, none⟩) 1 1] (kb :: fq) := by
  have hlx : w.heap.size < wr.heap.size := h.X.lt
  have hgr := setN_grown [.int .i64 s, .slice none 0 0, .slice (some ⟨kb, 0, none⟩) 1 1] 0 (grown_refl W1 (some w.heap.size))
  have hlt : Lt fq wr.heap.size := h.nw.lt
  have hkf : kb ∉ fq := fun hm => by have := hlt _ hm; omega
  have hn : New W1 (kb :: fq) B := ⟨(h.nw.fr.mono (Nat.le_refl _) hb.size).cons (Nat.le_trans h.sz hkb) hr.lt, List.nodup_cons.2 ⟨hkf, h.nw.nd⟩, fun q hq => by
    rcases List.mem_cons.1 hq with rfl | hq
    · exact Unf.row hr
    · exact (h.nw.uf q hq).same (hb.block q (hlt q hq))⟩
  have hno : ∀ q, some w.heap.size = some q → q ∉ kb :: fq := fun q e hm => by
    injection e with e
    subst e
    have := (hn.fr _ hm).1
    omega
  have hbx : Below w.heap.size W1 (putN W1 w.heap.size 0 [.int .i64 s, .slice none 0 0, .slice (some ⟨kb, 0, none⟩) 1 1]) := below_of_grown hgr (Nat.le_refl _) (by have := hb.size; omega)
  refine ⟨(h.X.below hb hlx).setAll _ (by rw [h.ow.length, Kind.cells_len]; rfl), (kone_ow hs (h.ow.below hb hlt) kb hr).grown' hgr hn.lt hno, hn.grown hgr hno, (h.z.below hb h.z.lt).grown hgr (fun e => by injection e with e; omega), (h.rd.below hb).low hbx hgw, only_low (only_low h.gr hb (by omega)) hbx (Nat.le_refl _), ?_, Nat.le_trans h.sz (Nat.le_trans hb.size hgr.size)⟩
  have := h.bk
  rw [Kind.bulk_one]
  omega
theorem putN_past (w : World) (g : Nat) (a b c : Value) (o1 o2 : Obj) (hg : g < w.heap.size) :
    (((putN w g 0 [a, b, c]).alloc o1).alloc o2).drew = putN ((w.drew.alloc o1).alloc o2) g 0 [a, b, c] := by
  have h2 : g < w.heap.size + 1 := Nat.lt_succ_of_lt hg
  have hs : ∀ (W : World) (i : Addr) (u : Value), (W.setCell i u).heap.size = W.heap.size := fun W i u => by simp
  simp only [putN, World.alloc_drew, World.setCell_drew]
  rw [World.setCell_alloc_past, World.setCell_alloc_past, World.setCell_alloc_past, World.setCell_alloc_past, World.setCell_alloc_past, World.setCell_alloc_past]
  all_goals first | assumption | (simp only [hs, World.size_alloc]; assumption)
theorem SpW.wrapA {g : Nat} {L : List UInt8} {w : World} {B k5 : Nat} {wr : World} {n m : Nat} {y : Kind} {us : List Value} {fq : List Nat} (h : SpW g L w B k5 wr n y us fq) (hm : n = m + 1) {s : Int} (hs : (Lit.int .i64 s).wf = true) (hgw : g < w.heap.size) (hB : w.heap.size + 2 ≤ B) (o1 : Obj) :
    SpW g L w B k5 (((putN wr w.heap.size 0 [.int .i64 s, .slice none 0 0, .slice (some ⟨wr.heap.size + 1, 0, none⟩) 1 1]).alloc o1).alloc (.cells us.toArray 47)).drew m (.mk s [] [y]) [.int .i64 s, .slice none 0 0, .slice (some ⟨wr.heap.size + 1, 0, none⟩) 1 1] ((wr.heap.size + 1) :: fq) := by
  rw [putN_past _ _ _ _ _ _ _ h.X.lt]
  refine h.wrap hm (((below_drewN (Below.refl _ wr) 1).alloc (Nat.le_refl _) _).alloc (by simp) _) (Nat.le_succ _) ?_ hs hgw hB
  have h := Row.new (wr.drew.alloc o1) 47 us
  rw [World.size_alloc] at h
  exact h
theorem SpW.wrapB {g : Nat} {L : List UInt8} {w : World} {B k5 : Nat} {wr : World} {n m : Nat} {y : Kind} {us : List Value} {fq : List Nat} (h : SpW g L w B k5 wr n y us fq) (hm : n = m + 1) {s : Int} (hs : (Lit.int .i64 s).wf = true) (hgw : g < w.heap.size) (hB : w.heap.size + 2 ≤ B) (o2 : Obj) :
    SpW g L w B k5 (((putN wr w.heap.size 0 [.int .i64 s, .slice none 0 0, .slice (some ⟨wr.heap.size, 0, none⟩) 1 1]).alloc (.cells us.toArray 47)).alloc o2).drew m (.mk s [] [y]) [.int .i64 s, .slice none 0 0, .slice (some ⟨wr.heap.size, 0, none⟩) 1 1] (wr.heap.size :: fq) := by
  rw [putN_past _ _ _ _ _ _ _ h.X.lt]
  exact h.wrap hm (((below_drewN (Below.refl _ wr) 1).alloc (Nat.le_refl _) _).alloc (by simp) _) (Nat.le_refl _) ((Row.new wr.drew 47 us).alloc _) hs hgw hB
def DecOut (w : World) (e : Ending) (w' : World) : Prop := ∃ d : ByteArray, e = .returned (.string d) ∧ d.size ≤ 20 ∧ Below w.heap.size w w'
theorem specDec_out (j : Nat) (hj : j ≤ 40) (w : World) : Calls Try.prog 224 #[.int .i64 (100 + (j : Int))] w (DecOut w) := by
  have h := specDecN_any (100 + j) w (by omega)
  rw [show ((100 + j : Nat) : Int) = 100 + (j : Int) by omega] at h
  refine h.mono ?_
  rintro e w' ⟨rfl, hb⟩
  exact ⟨_, rfl, dec_size _ (by omega) (by omega), hb⟩
set_option maxRecDepth 100000 in
set_option maxHeartbeats 4000000 in
theorem spoilK_of (x : Kind) (ih : ∀ y ∈ x.kids, SpoilK y) : SpoilK x := by
  intro us fp L k g lo w ho hn hgl hlo hr hb hk
  obtain ⟨A1, c1, A2, c2, f1, f2, rfl, w0, o1, o2, rfl⟩ := ho.oKind
  have hgw := hr.lt
  have hf := hn.lt
  have HEND := hide (fun (W : World) (y : Kind) (vs : List Value) (fq : List Nat) (k' : Nat) (ho : OwC W y.cells vs fq) (hn : New W fq lo) (hs : ∀ b ∈ fq, b ∈ f1 ++ f2 ∨ w.heap.size + 2 ≤ b) (hx : y.bulk ≤ x.bulk + 1000) (hk' : k' ≤ k + (3 * x.bulk + 100)) (hr : RdD W g L k') (hg : w.grownBy W (some g)) =>
    show SpoilOut g L k (x.bulk + 1000) (3 * x.bulk + 100) lo (f1 ++ f2) w (.returned (.agg vs.toArray)) (putN W (w.heap.size + 1) 0 vs) from by
      have hgr := setN_grown vs 0 (grown_refl W (some (w.heap.size + 1)))
      have hno : w.heap.size + 1 ∉ fq := fun hm => by
        rcases hs _ hm with h | h
        · have := hf _ h; omega
        · omega
      have hb : Below w.heap.size W (putN W (w.heap.size + 1) 0 vs) := below_of_grown hgr (by omega) hg.size
      exact ⟨y, vs, fq, k', rfl, ho.grown hgr hn.lt hno, hn.grown hgr (fun b e => by injection e with e; subst e; exact hno), (fun b hb => (hs b hb).imp_right (fun h => by omega)), hx, hk', hr.low hb hgw, only_low hg hb (Nat.le_refl _)⟩)
  obtain ⟨-, hn1, hm1⟩ := o1.nlen
  obtain ⟨-, hn2, hm2⟩ := o2.nlen
  unfold maxLen at hm1 hm2
  have HI := hide ih
  have HN := hide hn
  have HR := hide hr
  have O1 := hide o1
  have O2 := hide o2
  clear ho ih hn hr o1 o2
  go_enter Try.func187, Try.ntmps187
  go_upto_region 1 with fail
  generalize hw1 : World.alloc _ _ = w1
  have hb0 : Below w.heap.size w w1 := by rw [← hw1]; exact ((Below.refl _ _).alloc (Nat.le_refl _) _).alloc (by simp) _
  have HS := hide (show SpS x A1 c1 A2 c2 f1 f2 lo g L w w1 k from
    ⟨by rw [← hw1]; exact (Row.new w _ _).alloc _, by
      rw [← hw1]
      have h := Row.new (w.alloc (.cells #[.int .i64 x.sort, .slice A1 x.names.length c1, .slice A2 x.kids.length c2] 47)) 47 [.int .i64 0, .slice none 0 0, .slice none 0 0]
      simpa using h, O1.out.below hb0 hf.left, O2.out.below hb0 hf.right, HN.out.below hb0 hf, HR.out.below hb0, grownBy_below hb0 (some g)⟩)
  clear hw1 hb0 O1 O2 HN HR
  have b2 := HS.out.X.cell 2
  have lb := HS.out.X.lt
  go_cut [17] from 9 to 18 (fun s17 wx => ∃ (b : Bool) (k1 : Nat), s17 = .bool b ∧ (b = true → 0 < x.kids.length) ∧ k1 ≤ k + 1 ∧ SpS x A1 c1 A2 c2 f1 f2 lo g L w wx k1)
  case first =>
    by_cases h0 : x.kids.length = 0
    · have h0i : ¬ ((0 : Int) < (x.kids.length : Int)) := by omega
      clear h0
      go_wp2_with fail
      go_meet
      exact ⟨false, k, rfl, (fun h => by cases h), by omega, HS.out⟩
    · have h0i : (0 : Int) < (x.kids.length : Int) := by omega
      have H0 := hide h0
      clear h0
      have HP := hide (pick_any HS.out.rd (n := 3) (by omega) (by omega) (by omega))
      go_wp2_with fail
      refine HP.out.mono ?_
      rintro e w5 ⟨r3, rfl, hr3, h5, hg5⟩
      go_wp2_with fail
      go_meet
      exact ⟨_, k + 1, rfl, fun _ => by have := H0.out; omega, Nat.le_refl _, HS.out.tick hg5 h5 hgl hlo⟩
  clear b2 lb HS
  obtain ⟨bb, k1, rfl, hbb, hk1, hs⟩ := hcut
  obtain ⟨w2, rfl⟩ : ∃ W, W = wc := ⟨_, rfl⟩
  have HS := hide hs
  clear hs
  rcases bb with _ | _
  rotate_left
  · have hkl : 0 < x.kids.length := hbb rfl
    clear hbb
    obtain ⟨ib, hib, jb0, jb1, jb2⟩ := info_parts info_Kind'
    have HIb := hide hib
    clear hib
    have hl3 : w.heap.size + 2 ≤ w2.heap.size := HS.out.Z.lt
    have hAA : Below w2.heap.size w2 (w2.alloc (.cells #[] 47)) := (Below.refl _ _).alloc (Nat.le_refl _) _
    obtain ⟨usk, fk, hok, hsk, hsub, hnk⟩ := (HS.out.o2.below hAA HS.out.hn.rightK.lt).srcNew (HS.out.hn.rightK.alloc _)
    have HE := hide (OwS.emptyL (f := Kind.cells) w2 lo (by omega) 47 3)
    have HNO := hide (show ∀ q, (Value.slice (some ⟨w2.heap.size, 0, none⟩) 0 0).ownBlock = some q → q ∉ fk from fun q e hm => by
      have e2 : w2.heap.size = q := by simpa [Value.ownBlock] using e
      have := HS.out.hn.rightK.lt _ (hsub hm)
      omega)
    have HOK := hide hok
    have HSK := hide hsk
    have HSUB := hide hsub
    have HNK := hide (show New (w2.alloc (.cells #[] 47)) ([] ++ fk) lo from hnk)
    have HAA := hide hAA
    clear hok hsk hnk hAA hsub
    have b2 := HS.out.X.cell 2
    have lb := HS.out.X.lt
    have hkl6 : x.kids.length ≤ 1000000 := by have := x.bulk_eq; omega
    go_wp2_with (first
      | (at_builtin; refine wpl_app rfl _ _ 45 rfl ib _ 56 Try.underlying45 HIb.out jb0 jb1 jb2 rfl (by decide) Kind.cells_len rfl HE.out x.kids HOK.out HNK.out HNO.out _ _ _ rfl rfl HSK.out (by simp; omega) (by decide) (by rw [World.size_alloc]; omega) ?_; intro A5 n5 c5 w5 hn5 hown5 hgb5; have hgb6 : GB (w2.alloc (.cells #[] 47)) w5 (.slice (some ⟨w2.heap.size, 0, none⟩) 0 0) (.slice A5 n5 c5) := hgb5; have hown6 : OwS w5 lo 47 3 Kind.cells (.slice A5 n5 c5) x.kids usk fk := hown5; have HB5 := hide (HAA.out.trans (hgb6.toBelow (B := w2.heap.size) (by rw [World.size_alloc]; omega) (fun q e => by (have e2 : w2.heap.size = q := by simpa [Value.ownBlock] using e); omega))); have HGE5 := hide (fun q (e : (Value.slice A5 n5 c5).ownBlock = some q) => show w2.heap.size ≤ q from hgb6.from (B := w2.heap.size) (by rw [World.size_alloc]; omega) (fun q e => by (have e2 : w2.heap.size = q := by simpa [Value.ownBlock] using e); omega) q e); have HS5 := hide (HS.out.tick (grownBy_below HB5.out (some g)) (HS.out.rd.below HB5.out) hgl hlo); have HO5 := hide hown6; have HN5 := hide hn5; clear hown5 hown6 hgb5 hgb6 hn5)
      | fail)
    obtain rfl : n5 = x.kids.length := by have := HN5.out; simpa using this
    have HP := hide (pick_any HS5.out.rd (n := x.kids.length) (by omega) (by omega) (by omega))
    go_wp2_with fail
    refine HP.out.mono ?_
    rintro e w6 ⟨i, rfl, hi, h6, hg6⟩
    have HS6 := hide (HS5.out.tick hg6 h6 hgl hlo)
    have HO6 := hide (HO5.out.kept hg6 (fun q e => by injection e with e; subst e; exact ⟨HO5.out.nlow hgl, HO5.out.low hgl⟩))
    obtain ⟨g5, rfl, -, hg5lo, hg5lt⟩ := HO6.out.block hkl
    have hg5 : w2.heap.size ≤ g5 := HGE5.out g5 rfl
    obtain ⟨l1, y, l2, hsplit, hl1⟩ := sp_split_at x.kids i hi
    have hc := HO6.out.cells
    rw [hsplit, List.flatMap_append, List.flatMap_cons] at hc
    obtain ⟨u1, u9, p1, p9, rfl, rfl, hc1, hc9, hu1⟩ := hc.splitK
    obtain ⟨u0, u2, p0, p2, rfl, rfl, hc0, hc2, hu0⟩ := hc9.splitK
    have hy3 : u0.length = 3 := by rw [hu0, Kind.cells_len]
    have hu1i : u1.length = i * 3 := by rw [hu1, flat_len Kind.cells 3 Kind.cells_len, hl1]
    obtain ⟨q0, q1, q2, rfl⟩ : ∃ a b c, u0 = [a, b, c] := by
      match u0, hy3 with
      | [a, b, c], _ => exact ⟨a, b, c, rfl⟩
    have k0 : w6.cell? ⟨g5, i * 3, none⟩ = some q0 := (HO6.out.cellAt (j := i * 3) (by rw [← hu1i, List.getElem?_append_right (Nat.le_refl _)]; simp)).1
    have k1c : w6.cell? ⟨g5, i * 3 + 1, none⟩ = some q1 := (HO6.out.cellAt (j := i * 3 + 1) (by rw [← hu1i, List.getElem?_append_right (by omega)]; simp)).1
    have k2 : w6.cell? ⟨g5, i * 3 + 2, none⟩ = some q2 := (HO6.out.cellAt (j := i * 3 + 2) (by rw [← hu1i, List.getElem?_append_right (by omega)]; simp)).1
    have HC1 := hide hc1
    have HC2 := hide hc2
    have HSP := hide hsplit
    have HU1 := hide hu1i
    have hN0 : New w6 p0 lo := (HO6.out.new.rightK).leftK
    have HLT6 := hide (show Lt (p1 ++ (p0 ++ p2)) w6.heap.size from HO6.out.new.lt)
    have hw26 : w2.heap.size ≤ w6.heap.size := Nat.le_trans HB5.out.size hg6.size
    have hyb : y.bulk + 1 ≤ x.bulk := by
      have h := x.bulk_eq
      rw [hsplit, Kind.bulkS_append] at h
      simp only [Kind.bulkS, List.length_append, List.length_cons] at h
      omega
    have HK := hide (HI.out y (by rw [hsplit]; simp) [q0, q1, q2] p0 L (k1 + 1) g lo w6 hc0 hN0 hgl (Nat.le_trans (by omega) (Nat.le_of_lt HS6.out.Z.lt)) HS6.out.rd (by omega) (by omega))
    have hii : (i : Int) < (x.kids.length : Int) := by omega
    clear hsplit hc hc9 hc1 hc2 hc0 h6 hg6 HP HS5 HO5 hN0 HE HNO HOK HSK HNK hu1 hu0 b2 lb hu1i hi hl1
    go_upto_region 4 with fail
    go_wp2_with fail
    refine HK.out.mono ?_
    rintro e w7 ⟨y7, us7, fq7, k7, rfl, ho7, hn7, hs7, hb7, hk7, hr7, hg7⟩
    have HO7 := hide ho7
    have HN7 := hide hn7
    have HF7 := hide hs7
    have HS7 := hide (HS6.out.tick hg7 hr7 hgl hlo)
    have HG7 := hide (HO6.out.kept hg7 (fun q e => by injection e with e; subst e; exact ⟨HO6.out.nlow hgl, HO6.out.low hgl⟩))
    have hgn : ∀ q, some g = some q → q ∉ p1 ++ (p0 ++ p2) := fun q e => by injection e with e; subst e; exact HO6.out.nlow hgl
    have HC71 := hide (HC1.out.grown' hg7 (fun b hb => HO6.out.new.lt b (by simp [hb])) (fun q e hm => hgn q e (by simp [hm])))
    have HC72 := hide (HC2.out.grown' hg7 (fun b hb => HO6.out.new.lt b (by simp [hb])) (fun q e hm => hgn q e (by simp [hm])))
    obtain ⟨E1, e1, E2, e2, r1, r2, rfl, -, -, -, -⟩ := ho7.oKind
    have f0 : w7.frozen? ⟨g5, i * 3, none⟩ = false := (HG7.out.cellAt (j := i * 3) (u := q0) (by rw [← HU1.out, List.getElem?_append_right (Nat.le_refl _)]; simp)).2.1
    have f1c : w7.frozen? ⟨g5, i * 3 + 1, none⟩ = false := (HG7.out.cellAt (j := i * 3 + 1) (u := q1) (by rw [← HU1.out, List.getElem?_append_right (by omega)]; simp)).2.1
    have f2c : w7.frozen? ⟨g5, i * 3 + 2, none⟩ = false := (HG7.out.cellAt (j := i * 3 + 2) (u := q2) (by rw [← HU1.out, List.getElem?_append_right (by omega)]; simp)).2.1
    obtain ⟨v0, hv0⟩ : ∃ v, w7.cell? ⟨g5, i * 3, none⟩ = some v := ⟨q0, (HG7.out.cellAt (j := i * 3) (u := q0) (by rw [← HU1.out, List.getElem?_append_right (Nat.le_refl _)]; simp)).1⟩
    obtain ⟨v1, hv1⟩ : ∃ v, w7.cell? ⟨g5, i * 3 + 1, none⟩ = some v := ⟨q1, (HG7.out.cellAt (j := i * 3 + 1) (u := q1) (by rw [← HU1.out, List.getElem?_append_right (by omega)]; simp)).1⟩
    obtain ⟨v2, hv2⟩ : ∃ v, w7.cell? ⟨g5, i * 3 + 2, none⟩ = some v := ⟨q2, (HG7.out.cellAt (j := i * 3 + 2) (u := q2) (by rw [← HU1.out, List.getElem?_append_right (by omega)]; simp)).1⟩
    have hg7lt : g5 < w7.heap.size := Nat.lt_of_lt_of_le hg5lt hg7.size
    have hw67 : w6.heap.size ≤ w7.heap.size := hg7.size
    clear ho7 hn7 hs7 hr7 hg7 k0 k1c k2 HK HS6 HO6 HC1 HC2
    go_upto_region 5 with fail
    generalize hw8 : World.setCell (World.setCell (World.setCell w7 _ _) _ _) _ _ = w8
    have hput : putN w7 g5 u1.length [.int .i64 y7.sort, .slice E1 y7.names.length e1, .slice E2 y7.kids.length e2] = w8 := by rw [HU1.out]; exact hw8
    have hG : OwS w7 lo 47 3 Kind.cells (.slice (some ⟨g5, 0, none⟩) x.kids.length c5) (l1 ++ y :: l2) (u1 ++ ([q0, q1, q2] ++ u2)) (p1 ++ (p0 ++ p2)) := by rw [← HSP.out]; exact HG7.out
    have hP := hG.putAt HC71.out HC72.out rfl HO7.out rfl HN7.out (fun b hb => by
      rcases HF7.out b hb with h | h
      · exact .inl h
      · exact .inr ⟨fun hm => (by have := HLT6.out b (by simp [hm]); omega), fun hm => (by have := HLT6.out b (by simp [hm]); omega), by omega⟩)
    rw [hput] at hP
    have hgr8 : w7.grownBy w8 (some g5) := by rw [← hput]; exact setN_grown _ _ (grown_refl _ _)
    have HS8 := hide (HS7.out.low9 (below_of_grown hgr8 hg5 (by omega)) hl3 hf hgw hgl hlo)
    have HP8 := hide hP
    clear hw8 hput hG hP hgr8 HS7 HG7 HC71 HC72 HO7 HN7 f0 f1c f2c hv0 hv1 hv2

    have b0 := HS8.out.X.cell 0
    have b1 := HS8.out.X.cell 1
    have b2 := HS8.out.X.cell 2
    have a0 := HS8.out.X.frozen 0
    have a1 := HS8.out.X.frozen 1
    have a2 := HS8.out.X.frozen 2
    have lb := HS8.out.X.lt
    have z0 := HS8.out.Z.cell 0
    have y0 := HS8.out.Z.frozen 0
    have z1 := HS8.out.Z.cell 1
    have y1 := HS8.out.Z.frozen 1
    have z2 := HS8.out.Z.cell 2
    have y2 := HS8.out.Z.frozen 2
    have lz := HS8.out.Z.lt
    go_wp2
    obtain ⟨fq, hofq, hnfq, hsfq⟩ := sp_kids_fin (s := x.sort) (ns := x.names) w0 HS8.out.o1 HS8.out.hn.leftK HP8.out (fun q hq => by
      have h1 := hf q (List.mem_append.2 (.inl hq))
      have hd := fun hm => (List.nodup_append.1 HS8.out.hn.nd).2.2 q hq q (HSUB.out hm) rfl
      refine ⟨fun e => by (have e2 : g5 = q := by simpa [Value.ownBlock] using e); omega, fun hm => ?_⟩
      simp only [List.mem_append] at hm hd
      rcases hm with hm | hm | hm
      · exact hd (.inl hm)
      · rcases HF7.out q hm with h | h
        · exact hd (.inr (.inl h))
        · omega
      · exact hd (.inr (.inr hm)))
    have hsf : ∀ b ∈ fq, b ∈ f1 ++ f2 ∨ w.heap.size + 2 ≤ b := fun b hb => by
      rcases hsfq b hb with h | h | h
      · exact .inl (List.mem_append.2 (.inl h))
      · (have e2 : g5 = b := by simpa [Value.ownBlock] using h); exact .inr (by omega)
      · simp only [List.mem_append] at h
        rcases h with h | h | h
        · exact .inl (List.mem_append.2 (.inr (HSUB.out (by simp [h]))))
        · rcases HF7.out b h with h | h
          · exact .inl (List.mem_append.2 (.inr (HSUB.out (by simp [h]))))
          · exact .inr (by omega)
        · exact .inl (List.mem_append.2 (.inr (HSUB.out (by simp [h]))))
    have hgr : w8.grownBy (w8.setCell ⟨w.heap.size, 2, none⟩ (.slice (some ⟨g5, 0, none⟩) x.kids.length c5)) (some w.heap.size) := grownBy_setCell w8 ⟨w.heap.size, 2, none⟩ _
    have hbx : Below w.heap.size w8 (w8.setCell ⟨w.heap.size, 2, none⟩ (.slice (some ⟨g5, 0, none⟩) x.kids.length c5)) := below_of_grown hgr (Nat.le_refl _) HS8.out.gr.size
    refine bodyPost_ret (ret_row rfl _ _ (w.heap.size + 1) 47 [.int .i64 x.sort, .slice A1 x.names.length c1, .slice (some ⟨g5, 0, none⟩) x.kids.length c5] ((HS8.out.Z.far (p := ⟨w.heap.size, 2, none⟩) (by simp) _).setAll [.int .i64 x.sort, .slice A1 x.names.length c1, .slice (some ⟨g5, 0, none⟩) x.kids.length c5] rfl) _ rfl Try.underlying47 rfl (by kernel_rfl)) rfl ?_
    have hnq : ∀ q, some w.heap.size = some q → q ∉ fq := fun q e hm => by
      injection e with e
      subst e
      rcases hsf _ hm with h | h
      · have := hf _ h; omega
      · omega
    have hbk9 : bulkStrs x.names + (l1 ++ y7 :: l2).length + Kind.bulkS (l1 ++ y7 :: l2) ≤ x.bulk + 1000 := by
      have h := x.bulk_eq
      rw [HSP.out] at h
      simp only [Kind.bulkS_append, Kind.bulkS, List.length_append, List.length_cons] at h ⊢
      omega
    exact HEND.out _ (.mk x.sort x.names (l1 ++ y7 :: l2)) _ fq k7 (hofq.grown' hgr hnfq.lt hnq) (hnfq.grown hgr hnq) hsf (by rw [Kind.bulk_eq]; exact hbk9) (by omega) (HS8.out.rd.low hbx hgw) (only_low HS8.out.gr hbx (Nat.le_refl _))
  clear hbb
  have HP := hide (pick_any HS.out.rd (n := 5) (by omega) (by omega) (by omega))
  go_wp2_with fail
  refine HP.out.mono ?_
  rintro e w3 ⟨v, rfl, hv, h3, hg3⟩
  have HT := hide (HS.out.tick hg3 h3 hgl hlo)
  clear HP HS h3 hg3
  have hv5 : v = 0 ∨ v = 1 ∨ v = 2 ∨ v = 3 ∨ v = 4 := by omega
  clear hv
  rcases hv5 with rfl | rfl | rfl | rfl | rfl
  · have HP := hide (pick_any HT.out.rd (n := 8) (by omega) (by omega) (by omega))
    go_wp2_with fail
    refine HP.out.mono ?_
    rintro e w4 ⟨q, rfl, hq, h4, hg4⟩
    have HU := hide (HT.out.tick hg4 h4 hgl hlo)
    clear HP HT h4 hg4
    have b0 := HU.out.X.cell 0
    have a0 := HU.out.X.frozen 0
    have b1 := HU.out.X.cell 1
    have b2 := HU.out.X.cell 2
    have lb := HU.out.X.lt
    have z0 := HU.out.Z.cell 0
    have y0 := HU.out.Z.frozen 0
    have z1 := HU.out.Z.cell 1
    have y1 := HU.out.Z.frozen 1
    have z2 := HU.out.Z.cell 2
    have y2 := HU.out.Z.frozen 2
    have lz := HU.out.Z.lt
    go_wp2
    have hgr : w4.grownBy (w4.setCell ⟨w.heap.size, 0, none⟩ (.int .i64 (q : Int))) (some w.heap.size) := grownBy_setCell w4 ⟨w.heap.size, 0, none⟩ _
    have hbx : Below w.heap.size w4 (w4.setCell ⟨w.heap.size, 0, none⟩ (.int .i64 (q : Int))) := below_of_grown hgr (Nat.le_refl _) HU.out.gr.size
    have hnx : ∀ h, some w.heap.size = some h → h ∉ f1 ++ f2 := fun h e hm => by
      injection e with e
      subst e
      have := hf _ hm
      omega
    refine bodyPost_ret (ret_row rfl _ _ (w.heap.size + 1) 47 [.int .i64 (q : Int), .slice A1 x.names.length c1, .slice A2 x.kids.length c2] ((HU.out.Z.far (p := ⟨w.heap.size, 0, none⟩) (by simp) _).setAll [.int .i64 (q : Int), .slice A1 x.names.length c1, .slice A2 x.kids.length c2] rfl) _ rfl Try.underlying47 rfl (by kernel_rfl)) rfl ?_
    exact HEND.out _ (.mk q x.names x.kids) _ (f1 ++ f2) (k1 + 1 + 1) ((OwC.mKind (x := Kind.mk q x.names x.kids) (wf8 hq) HU.out.o1 HU.out.o2).grown' hgr HU.out.hn.lt hnx) (HU.out.hn.grown hgr hnx) (fun b hb => .inl hb) (by rw [Kind.bulk_eq, x.bulk_eq]; simp only [Kind.names, Kind.kids]; omega) (by omega) (HU.out.rd.low hbx hgw) (only_low HU.out.gr hbx (Nat.le_refl _))
  · obtain ⟨ia, hia, ja0, ja1, ja2⟩ := info_parts info_string
    have HIa := hide hia
    clear hia
    have hl3 : w.heap.size + 2 ≤ w3.heap.size := HT.out.Z.lt
    have hAA : Below w3.heap.size w3 (w3.alloc (.cells #[] 9)) := (Below.refl _ _).alloc (Nat.le_refl _) _
    obtain ⟨usk, hok, hsk⟩ := (HT.out.o1.below hAA HT.out.hn.leftK.lt).srcStrs
    have HE := hide (OwS.emptyL (f := strC) w3 lo (by omega) 9 1)
    have HOK := hide hok
    have HSK := hide hsk
    have HAA := hide hAA
    clear hok hsk hAA
    have b1 := HT.out.X.cell 1
    have lb := HT.out.X.lt
    have hnl6 : x.names.length ≤ 1000000 := by have := x.bulk_eq; unfold bulkStrs at this; omega
    go_wp2_with (first
      | (at_builtin; refine wpl_app rfl _ _ 23 rfl ia _ 16 Try.underlying23 HIa.out ja0 ja1 ja2 rfl (by decide) strC_len rfl HE.out x.names HOK.out (New.nil _ _) (fun q _ hq => by cases hq) _ _ _ rfl rfl HSK.out (by simp; omega) (by decide) (by rw [World.size_alloc]; omega) ?_; intro A5 n5 c5 w5 hn5 hown5 hgb5; have hgb6 : GB (w3.alloc (.cells #[] 9)) w5 (.slice (some ⟨w3.heap.size, 0, none⟩) 0 0) (.slice A5 n5 c5) := hgb5; have hown6 : OwS w5 lo 9 1 strC (.slice A5 n5 c5) x.names usk [] := hown5; have HB5 := hide (HAA.out.trans (hgb6.toBelow (B := w3.heap.size) (by rw [World.size_alloc]; omega) (fun q e => by (have e2 : w3.heap.size = q := by simpa [Value.ownBlock] using e); omega))); have HGE5 := hide (fun q (e : (Value.slice A5 n5 c5).ownBlock = some q) => show w3.heap.size ≤ q from hgb6.from (B := w3.heap.size) (by rw [World.size_alloc]; omega) (fun q e => by (have e2 : w3.heap.size = q := by simpa [Value.ownBlock] using e); omega) q e); have HS5 := hide (HT.out.tick (grownBy_below HB5.out (some g)) (HT.out.rd.below HB5.out) hgl hlo); have HO5 := hide hown6; have HN5 := hide hn5; clear hown5 hown6 hgb5 hgb6 hn5)
      | fail)
    have hA6 : Below w5.heap.size w5 (w5.alloc (.cells #[.string ⟨#[97]⟩, .string ⟨#[122]⟩, .string ⟨#[65]⟩] 9)) := (Below.refl _ _).alloc (Nat.le_refl _) _
    have HS6 := hide (HS5.out.tick (grownBy_below hA6 (some g)) (HS5.out.rd.below hA6) hgl hlo)
    have HO6 := hide (HO5.out.alloc (.cells #[.string ⟨#[97]⟩, .string ⟨#[122]⟩, .string ⟨#[65]⟩] 9))
    have hz5 : w.heap.size + 1 < w5.heap.size := HS5.out.Z.lt
    have HOF := hide (of_any HS6.out.rd (by omega) [⟨#[97]⟩, ⟨#[122]⟩, ⟨#[65]⟩] w5.heap.size 3 (by decide) (by decide) (by omega) (by rw [World.size_alloc]; omega) (fun j hj => by
      have h := (Row.new w5 9 [.string ⟨#[97]⟩, .string ⟨#[122]⟩, .string ⟨#[65]⟩]).cell j
      refine h.trans ?_
      have hj3 : j < 3 := hj
      obtain rfl | rfl | rfl : j = 0 ∨ j = 1 ∨ j = 2 := by omega
      all_goals rfl))
    have hsz6 : w3.heap.size ≤ (w5.alloc (.cells #[.string ⟨#[97]⟩, .string ⟨#[122]⟩, .string ⟨#[65]⟩] 9)).heap.size := by have := HB5.out.size; rw [World.size_alloc]; omega
    clear hA6 b1 lb
    go_wp2_with fail
    refine HOF.out.mono ?_
    rintro e w7 ⟨s7, hs7, rfl, hr7, hg7⟩
    have hs1 : s7.size ≤ 1 := by
      simp only [List.mem_cons, List.not_mem_nil, or_false] at hs7
      rcases hs7 with rfl | rfl | rfl <;> decide
    have HS7 := hide (HS6.out.tick hg7 hr7 hgl hlo)
    have HO7 := hide ((HO6.out.kept hg7 (fun q e => by injection e with e; subst e; exact ⟨HO6.out.nlow hgl, HO6.out.low hgl⟩)).alloc (.cells #[.string s7] 9))
    have HXS := hide (fun W => show OwC W ([s7].flatMap strC) [.string s7] [] from ⟨[], [], ⟨rfl, show s7.size ≤ maxLen by (unfold maxLen; omega), rfl⟩, rfl, rfl⟩)
    have hsz7 : w3.heap.size ≤ w7.heap.size := Nat.le_trans hsz6 hg7.size
    have HSA := hide (show lo ≤ (w7.alloc (.cells #[.string s7] 9)).heap.size from by rw [World.size_alloc]; omega)
    clear hs7 hr7 hg7 HOF HS6 HO6 HS5 HO5 HE HOK HSK
    go_wp2_with (first
      | (at_builtin; refine wpl_app rfl _ _ 23 rfl ia _ 16 Try.underlying23 HIa.out ja0 ja1 ja2 rfl (by decide) strC_len rfl HO7.out [s7] (HXS.out _) (New.nil _ _) (fun q _ hq => by cases hq) _ 1 1 rfl rfl (SrcAt.new w7 _ _ _ _) (by simp; omega) (by decide) HSA.out ?_; intro A9 n9 c9 w9 hn9 hown9 hgb9; have hgba : GB (w7.alloc (.cells #[.string s7] 9)) w9 (.slice A5 n5 c5) (.slice A9 n9 c9) := hgb9; have hown : OwS w9 lo 9 1 strC (.slice A9 n9 c9) (x.names ++ [s7]) (usk ++ [.string s7]) [] := hown9; have HB9 := hide (((Below.refl w3.heap.size w7).alloc hsz7 (.cells #[.string s7] 9)).trans (hgba.toBelow (B := w3.heap.size) (Nat.le_trans hsz7 (by rw [World.size_alloc]; omega)) HGE5.out)); have HGE9 := hide (hgba.from (B := w3.heap.size) (Nat.le_trans hsz7 (by rw [World.size_alloc]; omega)) HGE5.out); have HS9 := hide (HS7.out.low9 HB9.out hl3 hf hgw hgl hlo); have HO9 := hide hown; have HN9 := hide hn9; clear hown9 hgb9 hgba hown hn9; have b0 := HS9.out.X.cell 0; have b1 := HS9.out.X.cell 1; have b2 := HS9.out.X.cell 2; have a1 := HS9.out.X.frozen 1; have lb := HS9.out.X.lt; have z0 := HS9.out.Z.cell 0; have y0 := HS9.out.Z.frozen 0; have z1 := HS9.out.Z.cell 1; have y1 := HS9.out.Z.frozen 1; have z2 := HS9.out.Z.cell 2; have y2 := HS9.out.Z.frozen 2; have lz := HS9.out.Z.lt)
      | fail)
    obtain rfl : n9 = (x.names ++ [s7]).length := by rw [HN9.out]; simp
    obtain ⟨fq, hofq, hnfq, hsfq⟩ := sp_names_fin (s := x.sort) (ks := x.kids) w0 HS9.out.o2 HS9.out.hn.rightK HO9.out (fun q hq e => by
      have h1 := hf q (List.mem_append.2 (.inr hq))
      have := HGE9.out q e
      omega)
    have hsf : ∀ b ∈ fq, b ∈ f1 ++ f2 ∨ w.heap.size + 2 ≤ b := fun b hb => by
      rcases hsfq b hb with h | h
      · have := HGE9.out b h; exact .inr (by omega)
      · exact .inl (List.mem_append.2 (.inr h))
    have hgr : w9.grownBy (w9.setCell ⟨w.heap.size, 1, none⟩ (.slice A9 (x.names ++ [s7]).length c9)) (some w.heap.size) := grownBy_setCell w9 ⟨w.heap.size, 1, none⟩ _
    have hbx : Below w.heap.size w9 (w9.setCell ⟨w.heap.size, 1, none⟩ (.slice A9 (x.names ++ [s7]).length c9)) := below_of_grown hgr (Nat.le_refl _) HS9.out.gr.size
    refine bodyPost_ret (ret_row rfl _ _ (w.heap.size + 1) 47 [.int .i64 x.sort, .slice A9 (x.names ++ [s7]).length c9, .slice A2 x.kids.length c2] ((HS9.out.Z.far (p := ⟨w.heap.size, 1, none⟩) (by simp) _).setAll [.int .i64 x.sort, .slice A9 (x.names ++ [s7]).length c9, .slice A2 x.kids.length c2] rfl) _ rfl Try.underlying47 rfl (by kernel_rfl)) rfl ?_
    have hnq : ∀ q, some w.heap.size = some q → q ∉ fq := fun q e hm => by
      injection e with e
      subst e
      rcases hsf _ hm with h | h
      · have := hf _ h; omega
      · omega
    exact HEND.out _ (.mk x.sort (x.names ++ [s7]) x.kids) _ fq (k1 + 1 + 1) (hofq.grown' hgr hnfq.lt hnq) (hnfq.grown hgr hnq) hsf (by rw [Kind.bulk_eq, x.bulk_eq]; simp only [Kind.names, Kind.kids, bulkStrs_snoc]; omega) (by omega) (HS9.out.rd.low hbx hgw) (only_low HS9.out.gr hbx (Nat.le_refl _))
  · obtain ⟨ib, hib, jb0, jb1, jb2⟩ := info_parts info_Kind'
    have HIb := hide hib
    clear hib
    have hl3 : w.heap.size + 2 ≤ w3.heap.size := HT.out.Z.lt
    have hAA : Below w3.heap.size w3 (w3.alloc (.cells #[] 47)) := (Below.refl _ _).alloc (Nat.le_refl _) _
    obtain ⟨usk, fk, hok, hsk, hsub, hnk⟩ := (HT.out.o2.below hAA HT.out.hn.rightK.lt).srcNew (HT.out.hn.rightK.alloc _)
    have HE := hide (OwS.emptyL (f := Kind.cells) w3 lo (by omega) 47 3)
    have HNO := hide (show ∀ q, (Value.slice (some ⟨w3.heap.size, 0, none⟩) 0 0).ownBlock = some q → q ∉ fk from fun q e hm => by
      have e2 : w3.heap.size = q := by simpa [Value.ownBlock] using e
      have := HT.out.hn.rightK.lt _ (hsub hm)
      omega)
    have HOK := hide hok
    have HSK := hide hsk
    have HSUB := hide hsub
    have HNK := hide (show New (w3.alloc (.cells #[] 47)) ([] ++ fk) lo from hnk)
    have HAA := hide hAA
    clear hok hsk hnk hAA hsub
    have b2 := HT.out.X.cell 2
    have lb := HT.out.X.lt
    have hkl6 : x.kids.length ≤ 1000000 := by have := x.bulk_eq; omega
    have HLF := hide (fun W => show OwC W ([Kind.mk 1 [] []].flatMap Kind.cells) [.int .i64 1, .slice none 0 0, .slice none 0 0] [] from by rw [List.flatMap_singleton]; exact kleaf_ow W 1 (by decide))
    go_wp2_with (first
      | (at_builtin; refine wpl_app rfl _ _ 45 rfl ib _ 56 Try.underlying45 HIb.out jb0 jb1 jb2 rfl (by decide) Kind.cells_len rfl HOA.out [Kind.mk 1 [] []] (HLF.out _) HNA.out (fun q _ hq => by cases hq) _ 1 1 rfl rfl (SrcAt.new w5 _ _ _ _) (by simp; omega) (by decide) HSA.out ?_; intro A9 n9 c9 w9 hn9 hown9 hgb9; have hgba : GB (w5.alloc (.cells #[.int .i64 1, .slice none 0 0, .slice none 0 0] 47)) w9 (.slice A5 n5 c5) (.slice A9 n9 c9) := hgb9; have hown : OwS w9 lo 47 3 Kind.cells (.slice A9 n9 c9) (x.kids ++ [Kind.mk 1 [] []]) (usk ++ [.int .i64 1, .slice none 0 0, .slice none 0 0]) (fk ++ []) := hown9; have HB9 := hide (((Below.refl w3.heap.size w5).alloc (HB5.out.size) (.cells #[.int .i64 1, .slice none 0 0, .slice none 0 0] 47)).trans (hgba.toBelow (B := w3.heap.size) (Nat.le_trans HB5.out.size (by rw [World.size_alloc]; omega)) HGE5.out)); have HGE9 := hide (hgba.from (B := w3.heap.size) (Nat.le_trans HB5.out.size (by rw [World.size_alloc]; omega)) HGE5.out); have HS9 := hide (HT.out.tick (grownBy_below (HB5.out.trans HB9.out) (some g)) (HT.out.rd.below (HB5.out.trans HB9.out)) hgl hlo); have HO9 := hide hown; have HN9 := hide hn9; clear hown9 hgb9 hgba hown hn9; have b0 := HS9.out.X.cell 0; have b1 := HS9.out.X.cell 1; have b2 := HS9.out.X.cell 2; have a2 := HS9.out.X.frozen 2; have lb := HS9.out.X.lt; have z0 := HS9.out.Z.cell 0; have y0 := HS9.out.Z.frozen 0; have z1 := HS9.out.Z.cell 1; have y1 := HS9.out.Z.frozen 1; have z2 := HS9.out.Z.cell 2; have y2 := HS9.out.Z.frozen 2; have lz := HS9.out.Z.lt)
      | (at_builtin; refine wpl_app rfl _ _ 45 rfl ib _ 56 Try.underlying45 HIb.out jb0 jb1 jb2 rfl (by decide) Kind.cells_len rfl HE.out x.kids HOK.out HNK.out HNO.out _ _ _ rfl rfl HSK.out (by simp; omega) (by decide) (by rw [World.size_alloc]; omega) ?_; intro A5 n5 c5 w5 hn5 hown5 hgb5; have hgb6 : GB (w3.alloc (.cells #[] 47)) w5 (.slice (some ⟨w3.heap.size, 0, none⟩) 0 0) (.slice A5 n5 c5) := hgb5; have hown6 : OwS w5 lo 47 3 Kind.cells (.slice A5 n5 c5) x.kids usk fk := hown5; have HB5 := hide (HAA.out.trans (hgb6.toBelow (B := w3.heap.size) (by rw [World.size_alloc]; omega) (fun q e => by (have e2 : w3.heap.size = q := by simpa [Value.ownBlock] using e); omega))); have HGE5 := hide (fun q (e : (Value.slice A5 n5 c5).ownBlock = some q) => show w3.heap.size ≤ q from hgb6.from (B := w3.heap.size) (by rw [World.size_alloc]; omega) (fun q e => by (have e2 : w3.heap.size = q := by simpa [Value.ownBlock] using e); omega) q e); have HS5 := hide (HT.out.tick (grownBy_below HB5.out (some g)) (HT.out.rd.below HB5.out) hgl hlo); have HO5 := hide hown6; have HN5 := hide hn5; clear hown5 hown6 hgb5 hgb6 hn5; have HOA := hide (HO5.out.alloc (.cells #[.int .i64 1, .slice none 0 0, .slice none 0 0] 47)); have HNA := hide (show New (w5.alloc (.cells #[.int .i64 1, .slice none 0 0, .slice none 0 0] 47)) (fk ++ []) lo from by (rw [List.append_nil]; exact HO5.out.new.alloc _)); have HSA := hide (show lo ≤ (w5.alloc (.cells #[.int .i64 1, .slice none 0 0, .slice none 0 0] 47)).heap.size from by (have := HB5.out.size; rw [World.size_alloc]; omega)))
      | fail)
    obtain rfl : n9 = (x.kids ++ [Kind.mk 1 [] []]).length := by rw [HN9.out]; simp
    obtain ⟨fq, hofq, hnfq, hsfq⟩ := sp_kids_fin (s := x.sort) (ns := x.names) w0 HS9.out.o1 HS9.out.hn.leftK HO9.out (fun q hq => by
      have h1 := hf q (List.mem_append.2 (.inl hq))
      refine ⟨fun e => by have := HGE9.out q e; omega, fun hm => ?_⟩
      rw [List.append_nil] at hm
      exact (List.nodup_append.1 HT.out.hn.nd).2.2 q hq q (HSUB.out hm) rfl)
    have hsf : ∀ b ∈ fq, b ∈ f1 ++ f2 ∨ w.heap.size + 2 ≤ b := fun b hb => by
      rcases hsfq b hb with h | h | h
      · exact .inl (List.mem_append.2 (.inl h))
      · have := HGE9.out b h; exact .inr (by omega)
      · rw [List.append_nil] at h; exact .inl (List.mem_append.2 (.inr (HSUB.out h)))
    have hgr : w9.grownBy (w9.setCell ⟨w.heap.size, 2, none⟩ (.slice A9 (x.kids ++ [Kind.mk 1 [] []]).length c9)) (some w.heap.size) := grownBy_setCell w9 ⟨w.heap.size, 2, none⟩ _
    have hbx : Below w.heap.size w9 (w9.setCell ⟨w.heap.size, 2, none⟩ (.slice A9 (x.kids ++ [Kind.mk 1 [] []]).length c9)) := below_of_grown hgr (Nat.le_refl _) HS9.out.gr.size
    refine bodyPost_ret (ret_row rfl _ _ (w.heap.size + 1) 47 [.int .i64 x.sort, .slice A1 x.names.length c1, .slice A9 (x.kids ++ [Kind.mk 1 [] []]).length c9] ((HS9.out.Z.far (p := ⟨w.heap.size, 2, none⟩) (by simp) _).setAll [.int .i64 x.sort, .slice A1 x.names.length c1, .slice A9 (x.kids ++ [Kind.mk 1 [] []]).length c9] rfl) _ rfl Try.underlying47 rfl (by kernel_rfl)) rfl ?_
    have hnq : ∀ q, some w.heap.size = some q → q ∉ fq := fun q e hm => by
      injection e with e
      subst e
      rcases hsf _ hm with h | h
      · have := hf _ h; omega
      · omega
    exact HEND.out _ (.mk x.sort x.names (x.kids ++ [Kind.mk 1 [] []])) _ fq (k1 + 1) (hofq.grown' hgr hnfq.lt hnq) (hnfq.grown hgr hnq) hsf (by rw [Kind.bulk_eq, x.bulk_eq]; simp only [Kind.names, Kind.kids, Kind.bulkS_append, Kind.bulkS, Kind.bulk_leaf, List.length_append, List.length_singleton]; omega) (by omega) (HS9.out.rd.low hbx hgw) (only_low HS9.out.gr hbx (Nat.le_refl _))
  · obtain ⟨ia, hia, ja0, ja1, ja2⟩ := info_parts info_string
    have HIa := hide hia
    obtain ⟨ib, hib, jb0, jb1, jb2⟩ := info_parts info_Kind'
    have HIb := hide hib
    clear hia hib
    have b0 := HT.out.X.cell 0
    have b1 := HT.out.X.cell 1
    have b2 := HT.out.X.cell 2
    have a0 := HT.out.X.frozen 0
    have a1 := HT.out.X.frozen 1
    have a2 := HT.out.X.frozen 2
    have lb := HT.out.X.lt
    have hl3 : w.heap.size + 2 ≤ w3.heap.size := HT.out.Z.lt
    go_upto_region 21 with fail
    generalize hw4 : World.setCell (World.setCell (World.setCell w3 _ _) _ _) _ _ = w4
    have hgr : w3.grownBy w4 (some w.heap.size) := by rw [← hw4]; exact setN_grown [.int .i64 5, .slice none 0 0, .slice none 0 0] 0 (grown_refl w3 (some w.heap.size))
    have HX4 := hide (show Row w4 w.heap.size 47 [.int .i64 5, .slice none 0 0, .slice none 0 0] from by rw [← hw4]; exact HT.out.X.setAll [.int .i64 5, .slice none 0 0, .slice none 0 0] rfl)
    have hbx : Below w.heap.size w3 w4 := below_of_grown hgr (Nat.le_refl _) HT.out.gr.size
    have HZ4 := hide (HT.out.Z.grown hgr (fun e => by injection e with e; omega))
    have HR4 := hide (HT.out.rd.low hbx hgw)
    have HG4 := hide (only_low HT.out.gr hbx (Nat.le_refl _))
    have hs4 : w3.heap.size ≤ w4.heap.size := hgr.size
    clear hw4 hgr hbx HT b0 b1 b2 a0 a1 a2 lb
    obtain ⟨B, hB⟩ : ∃ B, B = w3.heap.size := ⟨_, rfl⟩
    rw [← hB] at hl3 hs4
    clear hB
    have HF4 := hide (show SpF g L w B (k1 + 1) w4 0 (.slice none 0 0) [] [] (.slice none 0 0) [] [] (k1 + 1) from
      ⟨⟨HX4.out, OwS.nil _ _ _ _ _, OwS.nil _ _ _ _ _, by omega, fun g h => (by cases h), fun g h => (by cases h), fun g h => (by cases h), fun g h => (by cases h)⟩,
        HR4.out, rfl, rfl, by simp [bulkStrs, bulkStr], rfl, by omega, HG4.out, HZ4.out, hs4, by omega⟩)
    clear HX4 HR4 HG4 HZ4 hs4
    go_wp2_with fail
    go_loopw [7] (fun i wr => ∃ (j : Nat) (ns : List ByteArray) (ks : List Kind) (B1 : Option Addr) (m1 d1 : Nat) (us1 : List Value) (B2 : Option Addr) (m2 d2 : Nat) (us2 : List Value) (k' : Nat), i = .int .i64 (j : Int) ∧ SpF g L w B (k1 + 1) wr j (.slice B1 m1 d1) ns us1 (.slice B2 m2 d2) ks us2 k') (fun i _ => 40 - (intOf i).toNat)
    case atStart => exact ⟨0, [], [], none, 0, 0, [], none, 0, 0, [], k1 + 1, rfl, HF4.out⟩
    case round =>
      obtain ⟨j, ns, ks, B1, m1, d1, us1, B2, m2, d2, us2, k', rfl, hF⟩ := hrel
      obtain ⟨E1, e1, hv1⟩ := hF.two.one.form
      obtain ⟨E2, e2, hv2⟩ := hF.two.two.form
      injection hv1 with hv1a hv1b hv1c
      injection hv2 with hv2a hv2b hv2c
      subst hv1a hv1b hv1c hv2a hv2b hv2c
      have hpk := hF.pk
      have hj40 := hF.hj
      have HP := hide (pick_any hF.rd (n := 2) (by omega) (by omega) (by omega))
      have HF := hide hF
      clear hF HF4
      go_wp2_with fail
      refine HP.out.mono ?_
      rintro e w5 ⟨r, rfl, hr2, h5, hg5⟩
      have HF5 := hide (HF.out.tick hg5 h5 hgw)
      clear h5 hg5 HP HF
      have hwr : IntKind.i64.wrap (39 + (r : Int)) = 39 + (r : Int) := wrapI _ (by omega) (by omega)
      have hwj : IntKind.i64.wrap (100 + (j : Int)) = 100 + (j : Int) := wrapI _ (by omega) (by omega)
      by_cases hjr : j < 39 + r
      · have hji : (j : Int) < 39 + (r : Int) := by omega
        have HDEC := hide (fun W => specDec_out j hj40 W)
        have t1 : w5.cell? ⟨w.heap.size, 1, none⟩ = some (.slice B1 ns.length d1) := HF5.out.two.box.cell 1
        have lb := HF5.out.two.box.lt
        have hszc : B ≤ w5.heap.size := HF5.out.sz
        have HNL := hide (show ns.length ≤ 40 from by rw [HF5.out.hn]; exact hj40)
        have HKL := hide (show ks.length ≤ 40 from by rw [HF5.out.hk]; exact hj40)
        go_upto_region 24 with fail
        go_cut [] from 93 to 102 (fun wx => ∃ (C1 : Option Addr) (p1 q1 : Nat) (us1' : List Value) (nm : ByteArray), nm.size ≤ 21 ∧ SpN g L w B wx (.slice C1 p1 q1) (ns ++ [nm]) us1' (.slice B2 ks.length d2) ks us2 (k' + 1))
        case first =>
          go_region_law (first | (refine step_app (by rfl) _ _ 23 (by rfl) ia _ 16 Try.underlying23 HIa.out ja0 ja1 ja2 rfl (by decide) strC_len (by rfl) HT8.out.one [⟨#[110]⟩ ++ ds] HXO.out (by exact New.nil _ _) (fun q _ hq => by cases hq) _ 1 1 (by rfl) rfl (SrcAt.new w7 _ _ _ _) HLB.out (by decide) HSB.out ?_; intro A' n' c' w9 hn9 hown9 hgb9; have HG9 := hide hgb9; have HN9 := hide hown9; have r9 := HT8.out.row1 hgb9; have q9 : w9.cell? ⟨w.heap.size, 1, none⟩ = some (.slice B1 ns.length d1) := r9.cell 1; have f9 : w9.frozen? ⟨w.heap.size, 1, none⟩ = false := r9.frozen 1; have HNN9 := hide hn9; clear hown9 hgb9 r9 hn9) | (go_simp; go_at_call 224; have hh := HDEC.out w5.drew; refine hh.mono ?_; clear hh; rintro e w7 ⟨ds, rfl, hds, hb7⟩; have n1 : ¬ (9223372036854775807 < 1 + ds.size) := (by omega); have hb57 : Below w5.heap.size w5 w7 := (below_drewN (Below.refl _ w5) 1).trans hb7; have HB7 := hide hb57; have HDS := hide hds; have HT7 := hide (HF5.out.two.below hb57); have t1c : w7.cell? ⟨w.heap.size, 1, none⟩ = some (.slice B1 ns.length d1) := HT7.out.box.cell 1; have lt7 := HT7.out.box.lt; have HT8 := hide (HT7.out.alloc (.cells #[.string (⟨#[110]⟩ ++ ds)] 9)); have HXO := hide (show OwC (w7.alloc (.cells #[.string (⟨#[110]⟩ ++ ds)] 9)) ([⟨#[110]⟩ ++ ds].flatMap strC) [.string (⟨#[110]⟩ ++ ds)] [] from ⟨[], [], ⟨rfl, show (⟨#[110]⟩ ++ ds : ByteArray).size ≤ maxLen by (have e1 : (⟨#[110]⟩ : ByteArray).size = 1 := rfl; rw [ByteArray.size_append]; unfold maxLen; omega), rfl⟩, rfl, rfl⟩); have HLB := hide (show ns.length + 1 ≤ 1099511627776 from by (have := HNL.out; omega)); have HSB := hide (show B ≤ (w7.alloc (.cells #[.string (⟨#[110]⟩ ++ ds)] 9)).heap.size from by (have := hb57.size; rw [World.size_alloc]; omega)); clear hds hb7 hb57))
          all_goals
            have HTP := hide (HT8.out.put1 HG9.out HN9.out 1 rfl (fun g hg => by cases hg))
            have hfr : ∀ u, Below w.heap.size w5 (w9.setCell ⟨w.heap.size, 1, none⟩ u) := fun u => ((HB7.out.mono (Nat.le_of_lt lb)).alloc (Nat.le_trans (Nat.le_of_lt lb) HB7.out.size) _).trans (HT8.out.frame1 HG9.out HSB.out 1 u (Nat.le_refl _))
            go_wp2_with fail
            go_meet
            exact ⟨A', n', c', us1 ++ [.string (⟨#[110]⟩ ++ ds)], ⟨#[110]⟩ ++ ds, (by have := HDS.out; have e1 : (⟨#[110]⟩ : ByteArray).size = 1 := rfl; rw [ByteArray.size_append]; omega), HTP.out, HF5.out.rd.low (hfr _) hgw, only_low HF5.out.gr (hfr _) (Nat.le_refl _), Row.far (p := ⟨w.heap.size, 1, none⟩) (HG9.out.row ((HF5.out.z.below HB7.out HF5.out.z.lt).alloc _) (HT8.out.one.low (by omega))) (by simp) _, Nat.le_trans hszc (hfr (.slice A' n' c')).size⟩
        case rest =>
          clear t1 lb hszc
          obtain ⟨w6, rfl⟩ : ∃ W, W = wc := ⟨_, rfl⟩
          obtain ⟨C1, p1, q1, us1', nm, hnm, hN⟩ := hcut
          have HN := hide hN
          have b2 : w6.cell? ⟨w.heap.size, 2, none⟩ = some (.slice B2 ks.length d2) := hN.two.box.cell 2
          have lb6 := hN.two.box.lt
          have HT8 := hide (hN.two.alloc (.cells #[.int .i64 1, .slice none 0 0, .slice none 0 0] 47))
          have HLF := hide (show OwC (w6.alloc (.cells #[.int .i64 1, .slice none 0 0, .slice none 0 0] 47)) ([Kind.mk 1 [] []].flatMap Kind.cells) [.int .i64 1, .slice none 0 0, .slice none 0 0] [] from by rw [List.flatMap_singleton]; exact kleaf_ow _ 1 (by decide))
          have HSB := hide (show B ≤ (w6.alloc (.cells #[.int .i64 1, .slice none 0 0, .slice none 0 0] 47)).heap.size from by have := hN.sz; rw [World.size_alloc]; omega)
          have hkl9 : ks.length + 1 ≤ 1099511627776 := by have := HKL.out; omega
          clear hN
          go_wp2_with (first | (at_builtin; refine wpl_app rfl _ _ 45 rfl ib _ 56 Try.underlying45 HIb.out jb0 jb1 jb2 rfl (by decide) Kind.cells_len rfl HT8.out.two [Kind.mk 1 [] []] HLF.out (by exact New.nil _ _) (fun q _ hq => by cases hq) _ 1 1 rfl rfl (SrcAt.new w6 _ _ _ _) hkl9 (by decide) HSB.out ?_; intro A9 n9 c9 w9 hn9 hown9 hgb9; have HG9 := hide hgb9; have HN9 := hide hown9; have r9 := HT8.out.row2 hgb9; have q9 : w9.cell? ⟨w.heap.size, 2, none⟩ = some (.slice B2 ks.length d2) := r9.cell 2; have f9 : w9.frozen? ⟨w.heap.size, 2, none⟩ = false := r9.frozen 2; have l9 := r9.lt; clear hown9 hgb9 r9 hn9) | fail)
          go_roundw
          case rel =>
            have hbb : Below w.heap.size w6 (w9.setCell ⟨w.heap.size, 2, none⟩ (.slice A9 n9 c9)) := ((Below.refl w.heap.size w6).alloc (Nat.le_of_lt lb6) _).trans (HT8.out.frame2 HG9.out HSB.out 2 _ (Nat.le_refl _))
            have hgoal : SpF g L w B (k1 + 1) (w9.setCell ⟨w.heap.size, 2, none⟩ (.slice A9 n9 c9)) (j + 1) (.slice C1 p1 q1) (ns ++ [nm]) us1' (.slice A9 n9 c9) (ks ++ [Kind.mk 1 [] []]) (us2 ++ [.int .i64 1, .slice none 0 0, .slice none 0 0]) (k' + 1) :=
              ⟨HT8.out.put2 HG9.out HN9.out 2 rfl (fun g hg => by cases hg), HN.out.rd.low hbb hgw, by rw [List.length_append, HF5.out.hn]; rfl, by rw [List.length_append, HF5.out.hk]; rfl,
                by (have := HF5.out.bn; rw [bulkStrs_snoc]; omega), by rw [kbulkS_snoc, HF5.out.bk]; rfl, by omega, only_low HN.out.gr hbb (Nat.le_refl _),
                Row.far (p := ⟨w.heap.size, 2, none⟩) (HG9.out.row (HN.out.z.alloc _) (HT8.out.two.low (by omega))) (by simp) _, Nat.le_trans HN.out.sz hbb.size, by omega⟩
            exact ⟨j + 1, _, _, C1, p1, q1, us1', A9, n9, c9, _, _, by go_num, hgoal⟩
          case measure => simp [intOf]; omega
      · have hji : ¬ ((j : Int) < 39 + (r : Int)) := by omega
        have b0 : w5.cell? ⟨w.heap.size, 0, none⟩ = some (.int .i64 5) := HF5.out.two.box.cell 0
        have b1 : w5.cell? ⟨w.heap.size, 1, none⟩ = some (.slice B1 ns.length d1) := HF5.out.two.box.cell 1
        have b2 : w5.cell? ⟨w.heap.size, 2, none⟩ = some (.slice B2 ks.length d2) := HF5.out.two.box.cell 2
        have lb := HF5.out.two.box.lt
        have z0 := HF5.out.z.cell 0
        have y0 := HF5.out.z.frozen 0
        have z1 := HF5.out.z.cell 1
        have y1 := HF5.out.z.frozen 1
        have z2 := HF5.out.z.cell 2
        have y2 := HF5.out.z.frozen 2
        have lz := HF5.out.z.lt
        go_wp2
        obtain ⟨fq, ho, hnw⟩ := kform_owC HF5.out.two (by decide)
        refine bodyPost_ret (ret_row rfl _ _ (w.heap.size + 1) 47 (kindMk 5 (.slice B1 ns.length d1) (.slice B2 ks.length d2)) (HF5.out.z.setAll (kindMk 5 (.slice B1 ns.length d1) (.slice B2 ks.length d2)) rfl) _ rfl Try.underlying47 rfl (by kernel_rfl)) rfl ?_
        exact HEND.out w5 (.mk 5 ns ks) _ fq (k' + 1) ho (hnw.mono (by omega)) (fun b hb => .inr (by have := (hnw.fr b hb).1; omega)) (by rw [Kind.bulk_eq]; simp only [Kind.names, Kind.kids]; have h1 := HF5.out.bn; have h2 := HF5.out.bk; have h3 := HF5.out.hk; omega) (by omega) HF5.out.rd HF5.out.gr
  · have b0 := HT.out.X.cell 0
    have b1 := HT.out.X.cell 1
    have b2 := HT.out.X.cell 2
    have a0 := HT.out.X.frozen 0
    have a1 := HT.out.X.frozen 1
    have a2 := HT.out.X.frozen 2
    have lb := HT.out.X.lt
    have hl3 : w.heap.size + 2 ≤ w3.heap.size := HT.out.Z.lt
    go_upto_region 9 with fail
    generalize hw4 : World.setCell (World.setCell (World.setCell w3 _ _) _ _) _ _ = w4
    have hgr : w3.grownBy w4 (some w.heap.size) := by rw [← hw4]; exact setN_grown [.int .i64 3, .slice none 0 0, .slice none 0 0] 0 (grown_refl w3 (some w.heap.size))
    have HX4 := hide (show Row w4 w.heap.size 47 [.int .i64 3, .slice none 0 0, .slice none 0 0] from by rw [← hw4]; exact HT.out.X.setAll [.int .i64 3, .slice none 0 0, .slice none 0 0] rfl)
    have hbx : Below w.heap.size w3 w4 := below_of_grown hgr (Nat.le_refl _) HT.out.gr.size
    have HZ4 := hide (HT.out.Z.grown hgr (fun e => by injection e with e; omega))
    have HR4 := hide (HT.out.rd.low hbx hgw)
    have HG4 := hide (only_low HT.out.gr hbx (Nat.le_refl _))
    have hs4 : w3.heap.size ≤ w4.heap.size := hgr.size
    clear hw4 hgr hbx HT b0 b1 b2 a0 a1 a2 lb
    have HP := hide (pick_any HR4.out (n := 2) (by omega) (by omega) (by omega))
    go_wp2_with fail
    refine HP.out.mono ?_
    rintro e w5 ⟨q, rfl, hq2, h5, hg5⟩
    obtain ⟨B, hB⟩ : ∃ B, B = w3.heap.size := ⟨_, rfl⟩
    rw [← hB] at hl3 hs4
    clear hB
    have HF4 := hide (show SpW g L w B (k1 + 1 + 1) w5 (5 + q) (.mk 3 [] []) [.int .i64 3, .slice none 0 0, .slice none 0 0] [] from
      ⟨HX4.out.grown hg5 (fun e => by injection e with e; omega), kleaf_ow _ 3 (by decide), New.nil _ _, HZ4.out.grown hg5 (fun e => by injection e with e; omega), h5, only_trans HG4.out hg5, by (show 0 + (5 + q) ≤ 6; omega), Nat.le_trans hs4 hg5.size⟩)
    have hwq : IntKind.i64.wrap (5 + (q : Int)) = 5 + (q : Int) := wrapI _ (by omega) (by omega)
    clear HX4 HR4 HG4 HZ4 hs4 h5 hg5 HP
    go_wp2_with fail
    go_loopw [8] (fun i wr => ∃ (n : Nat) (y : Kind) (us : List Value) (fq : List Nat), i = .int .i64 (n : Int) ∧ SpW g L w B (k1 + 1 + 1) wr n y us fq) (fun i _ => (intOf i).toNat)
    case atStart => exact ⟨5 + q, _, _, _, by go_num, HF4.out⟩
    case round =>
      obtain ⟨n, y, us, fq, rfl, hW⟩ := hrel
      obtain ⟨B1, d1, B2, d2, p1, p2, rfl, wy, -, -, -⟩ := hW.ow.oKind
      have HW := hide hW
      have b0 := hW.X.cell 0
      have b1 := hW.X.cell 1
      have b2 := hW.X.cell 2
      have a0 := hW.X.frozen 0
      have a1 := hW.X.frozen 1
      have a2 := hW.X.frozen 2
      have lb := hW.X.lt
      have hn6 : n ≤ 6 := by have := hW.bk; omega
      clear hW HF4
      by_cases h0 : n = 0
      · subst h0
        have z0 := HW.out.z.cell 0
        have y0 := HW.out.z.frozen 0
        have z1 := HW.out.z.cell 1
        have y1 := HW.out.z.frozen 1
        have z2 := HW.out.z.cell 2
        have y2 := HW.out.z.frozen 2
        have lz := HW.out.z.lt
        go_wp2
        refine bodyPost_ret (ret_row rfl _ _ (w.heap.size + 1) 47 [.int .i64 y.sort, .slice B1 y.names.length d1, .slice B2 y.kids.length d2] (HW.out.z.setAll [.int .i64 y.sort, .slice B1 y.names.length d1, .slice B2 y.kids.length d2] rfl) _ rfl Try.underlying47 rfl (by kernel_rfl)) rfl ?_
        exact HEND.out wr y _ fq (k1 + 1 + 1) HW.out.ow (HW.out.nw.mono (by omega)) (fun b hb => .inr (by have := (HW.out.nw.fr b hb).1; omega)) (by have := HW.out.bk; omega) (by omega) HW.out.rd HW.out.gr
      · obtain ⟨m, hm⟩ : ∃ m, n = m + 1 := ⟨n - 1, by omega⟩
        have hpos : (0 : Int) < (n : Int) := by omega
        have hw1 : IntKind.i64.wrap ((n : Int) - 1) = (m : Int) := by rw [wrapI _ (by omega) (by omega)]; omega
        have hm1 : (n : Int) - 1 = (m : Int) := by omega
        have htm : Int.tmod (n : Int) 2 = 0 ∨ Int.tmod (n : Int) 2 = 1 := by
          have e : Int.tmod (n : Int) 2 = ((n % 2 : Nat) : Int) := (Int.ofNat_tmod n 2).symm
          rw [e]
          omega
        have HM := hide hm
        have hlw : w.heap.size < wr.heap.size := lb
        have hr1 : ∀ c : Array Value, Below wr.heap.size wr ((wr.drew.alloc (.cells c 3)).alloc (.cells #[.int .i64 y.sort, .slice B1 y.names.length d1, .slice B2 y.kids.length d2] 47)) := fun c => ((below_drewN (Below.refl _ wr) 1).alloc (Nat.le_refl _) _).alloc (by simp) _
        have hr2 : ∀ c : Array Value, Below wr.heap.size wr ((wr.drew.alloc (.cells #[.int .i64 y.sort, .slice B1 y.names.length d1, .slice B2 y.kids.length d2] 47)).alloc (.cells c 3)) := fun c => ((below_drewN (Below.refl _ wr) 1).alloc (Nat.le_refl _) _).alloc (by simp) _
        have HR1 := hide hr1
        have HR2 := hide hr2
        clear hm hr1 hr2
        rcases htm with htm | htm
        all_goals
          go_upto_region 12 with fail
          go_region_law (fail)
          all_goals
            go_wp2
            go_roundw
            case rel =>
              first
                | exact ⟨m, _, _, _, rfl, SpW.wrapA HW.out HM.out (s := 4) (by decide) hgw hl3 (.cells #[.int .i64 4, .int .i64 6] 3)⟩
                | exact ⟨m, _, _, _, rfl, SpW.wrapA HW.out HM.out (s := 6) (by decide) hgw hl3 (.cells #[.int .i64 4, .int .i64 6] 3)⟩
                | exact ⟨m, _, _, _, rfl, SpW.wrapB HW.out HM.out (s := 4) (by decide) hgw hl3 (.cells #[.int .i64 4, .int .i64 6] 3)⟩
                | exact ⟨m, _, _, _, rfl, SpW.wrapB HW.out HM.out (s := 6) (by decide) hgw hl3 (.cells #[.int .i64 4, .int .i64 6] 3)⟩
            case measure => simp [intOf]; omega
set_option maxRecDepth 100000 in
set_option maxHeartbeats 4000000 in
theorem l5AnyKind_of (hsp : ∀ x, SpoilK x) {L : List UInt8} {k g : Nat} {w : World} (h : RdD w g L k) (hk : k ≤ 1000000) :
    Calls Try.prog 108 #[.pointer (some ⟨g, 0, none⟩)] w (KDraw g L k 3040 10310 w) := by
  have hgw := h.lt
  have HR0 := hide h
  have HSP := hide hsp
  have HEND := hide (fun (W : World) (x : Kind) (vs : List Value) (fq : List Nat) (k' : Nat) (ho : OwC W x.cells vs fq) (hn : New W fq (w.heap.size + 1)) (hx : x.bulk ≤ 3040) (hk' : k' ≤ k + 10310) (hr : RdD W g L k') (hg : w.grownBy W (some g)) =>
    show KDraw g L k 3040 10310 w (.returned (.agg vs.toArray)) (putN W w.heap.size 0 vs) from by
      have hgr := setN_grown vs 0 (grown_refl W (some w.heap.size))
      have hno : w.heap.size ∉ fq := hn.out (by omega)
      have hb : Below w.heap.size W (putN W w.heap.size 0 vs) := below_of_grown hgr (Nat.le_refl _) hg.size
      exact ⟨x, vs, fq, k', rfl, ho.grown hgr hn.lt hno, (hn.grown hgr (fun b e => by injection e with e; subst e; exact hno)).mono (by omega), hx, hk', hr.low hb hgw, only_low hg hb (Nat.le_refl _)⟩)
  clear h hsp
  go_enter Try.func108, Try.ntmps108
  go_upto_region 1 with fail
  generalize hw1 : w.alloc _ = w1
  have hb0 : Below w.heap.size w w1 := by rw [← hw1]; exact (Below.refl _ _).alloc (Nat.le_refl _) _
  have HZ := hide (show Row w1 w.heap.size 47 [.int .i64 0, .slice none 0 0, .slice none 0 0] from by rw [← hw1]; exact Row.new w _ _)
  have HR := hide (HR0.out.below hb0)
  have HG := hide (grownBy_below hb0 (some g))
  clear hw1 hb0 HR0
  have HP := hide (pick_any HR.out (n := 2) (by omega) (by omega) (by omega))
  go_wp2_with fail
  refine HP.out.mono ?_
  rintro e w5 ⟨r, rfl, hr2, h5, hg5⟩
  have HD := hide (fun b => l5Some_any b h5 (by omega))
  have HG5 := hide (only_trans HG.out hg5)
  have HZ5 := hide (HZ.out.grown hg5 (fun e => by injection e with e; omega))
  clear h5 hg5 HP HG HZ HR
  go_wp2_with fail
  refine (HD.out _).mono ?_
  rintro e w6 ⟨x, us, fq, k6, rfl, ho6, hn6, hx6, hk6, hr6, hg6⟩
  have HO6 := hide ho6
  have HN6 := hide (hn6.mono (show w.heap.size + 1 ≤ w5.heap.size from HZ5.out.lt))
  have HR6 := hide hr6
  have HG6 := hide (only_trans HG5.out hg6)
  have HZ6 := hide (HZ5.out.grown hg6 (fun e => by injection e with e; omega))
  have lz6 := HZ6.out.lt
  obtain ⟨B1, d1, B2, d2, f1, f2, rfl, k0, k1, k2, efq⟩ := ho6.oKind
  clear ho6 hn6 hr6 hg6 k1 k2 efq HD HG5 HZ5
  go_upto_region 2 with fail
  generalize hw7 : World.alloc _ _ = w7
  have hbA : Below w6.heap.size w6 w7 := by rw [← hw7]; exact (Below.refl _ _).alloc (Nat.le_refl _) _
  have HB7 := hide (show Row w7 w6.heap.size 47 [.int .i64 x.sort, .slice B1 x.names.length d1, .slice B2 x.kids.length d2] from by rw [← hw7]; exact Row.new w6 _ _)
  have HO7 := hide (HO6.out.below hbA HN6.out.lt)
  have HN7 := hide (HN6.out.below hbA HN6.out.lt)
  have HR7 := hide (HR6.out.below hbA)
  have HG7 := hide (only_low HG6.out hbA (by omega))
  have HZ7 := hide (HZ6.out.below hbA lz6)
  clear hw7 hbA HO6 HN6 HR6 HG6 HZ6
  have HP := hide (pick_any HR7.out (n := 12) (by omega) (by omega) (by omega))
  go_wp2_with fail
  refine HP.out.mono ?_
  rintro e w8 ⟨r2, rfl, hr12, h8, hg8⟩
  have hgf : ∀ q, some g = some q → q ∉ fq := fun q e hm => by
    injection e with e
    subst e
    have := (HN7.out.fr _ hm).1
    omega
  have HB8 := hide (HB7.out.grown hg8 (fun e => by injection e with e; omega))
  have HO8 := hide (HO7.out.grown' hg8 HN7.out.lt hgf)
  have HN8 := hide (HN7.out.grown hg8 hgf)
  have HR8 := hide h8
  have HG8 := hide (only_trans HG7.out hg8)
  have HZ8 := hide (HZ7.out.grown hg8 (fun e => by injection e with e; omega))
  clear h8 hg8 HP HB7 HO7 HN7 HR7 HG7 HZ7 hgf
  have b0 := HB8.out.cell 0
  have b1 := HB8.out.cell 1
  have b2 := HB8.out.cell 2
  have lb8 := HB8.out.lt
  have lz8 := HZ8.out.lt
  by_cases h0 : r2 = 0
  · subst h0
    have HC := hide (HSP.out x _ fq L (k6 + 1) g (w.heap.size + 1) w8 HO8.out HN8.out (by omega) (by omega) HR8.out (by omega) (by omega))
    go_wp2_with fail
    refine HC.out.mono ?_
    rintro e w9 ⟨y, us9, fq9, k9, rfl, ho9, hn9, hs9, hx9, hk9, hr9, hg9⟩
    have HO9 := hide ho9
    have HN9 := hide hn9
    have HR9 := hide hr9
    have HG9 := hide (only_trans HG8.out hg9)
    have HZ9 := hide (HZ8.out.grown hg9 (fun e => by injection e with e; omega))
    obtain ⟨E1, e1, E2, e2, g1, g2, rfl, k0', k1', k2', efq'⟩ := ho9.oKind
    clear ho9 hn9 hs9 hr9 hg9 k1' k2' efq' HC b0 b1 b2
    have z0 := HZ9.out.cell 0
    have y0 := HZ9.out.frozen 0
    have z1 := HZ9.out.cell 1
    have y1 := HZ9.out.frozen 1
    have z2 := HZ9.out.cell 2
    have y2 := HZ9.out.frozen 2
    have lz9 := HZ9.out.lt
    go_wp2
    refine bodyPost_ret (ret_row rfl _ _ w.heap.size 47 [.int .i64 y.sort, .slice E1 y.names.length e1, .slice E2 y.kids.length e2] (HZ9.out.setAll [.int .i64 y.sort, .slice E1 y.names.length e1, .slice E2 y.kids.length e2] rfl) _ rfl Try.underlying47 rfl (by kernel_rfl)) rfl ?_
    exact HEND.out w9 y _ fq9 k9 HO9.out HN9.out (by omega) (by omega) HR9.out HG9.out
  · have h0i : ¬ ((r2 : Int) = 0) := by omega
    have z0 := HZ8.out.cell 0
    have y0 := HZ8.out.frozen 0
    have z1 := HZ8.out.cell 1
    have y1 := HZ8.out.frozen 1
    have z2 := HZ8.out.cell 2
    have y2 := HZ8.out.frozen 2
    go_wp2
    refine bodyPost_ret (ret_row rfl _ _ w.heap.size 47 [.int .i64 x.sort, .slice B1 x.names.length d1, .slice B2 x.kids.length d2] (HZ8.out.setAll [.int .i64 x.sort, .slice B1 x.names.length d1, .slice B2 x.kids.length d2] rfl) _ rfl Try.underlying47 rfl (by kernel_rfl)) rfl ?_
    exact HEND.out w8 x _ fq (k6 + 1) HO8.out HN8.out (by omega) (by omega) HR8.out HG8.out
end Go.Proofs.Ytbjblchhenmgjaa
set_option linter.unusedVariables false
set_option linter.unusedSimpArgs false
namespace Go.Proofs.Ytbjblchhenmgjaa
open Go.ChangeShapes Go.WideShapes Go.ChangeAt Go.RowKit

/-- the schema of a kid -/
def Kind.pick (k : Kind) (i : Nat) : Kind := (k.kids[if k.sort = 5 then i else 0]?).getD k
mutual
def Tree.of : Tree → Kind → Prop
  | .mk s _ _ ns ts, k => k.sort = s ∧ k.names = ns ∧ Tree.ofS ts k.pick 0
def Tree.ofS : List Tree → (Nat → Kind) → Nat → Prop
  | [], _, _ => True
  | t :: r, f, i => t.of (f i) ∧ Tree.ofS r f (i + 1)
end
theorem Tree.ofS_iff : ∀ (l : List Tree) (f : Nat → Kind) (i : Nat), Tree.ofS l f i ↔ ∀ j (h : j < l.length), l[j].of (f (i + j))
  | [], f, i => by simp [Tree.ofS]
  | t :: r, f, i => by
    simp only [Tree.ofS, Tree.ofS_iff r f (i + 1)]
    constructor
    · rintro ⟨h1, h2⟩ j hj
      cases j with
      | zero => simpa using h1
      | succ j =>
        have := h2 j (by simpa using hj)
        simpa [Nat.add_assoc, Nat.add_comm 1 j] using this
    · intro h
      refine ⟨h 0 (by simp), fun j hj => ?_⟩
      have := h (j + 1) (by simpa using hj)
      simpa [Nat.add_assoc, Nat.add_comm 1 j] using this
theorem Tree.of_iff (t : Tree) (k : Kind) : t.of k ↔ k.sort = t.sort ∧ k.names = t.names ∧ ∀ j (h : j < t.kids.length), t.kids[j].of (k.pick j) := by
  cases t with
  | mk s n x ns ts => simp only [Tree.of, Tree.ofS_iff, Nat.zero_add]; rfl

/-- the place of a kid's schema -/
theorem Kind.pick_at {k : Kind} {lv : Nat} (hg : k.good lv) {t : Tree} (ht : t.shape) (hs : k.sort = t.sort) (hn : k.names.length = t.names.length) {j : Nat} (hj : j < t.kids.length) :
    0 < k.kids.length ∧ ∃ h : (if k.sort = 5 then j else 0) < k.kids.length, k.pick j = k.kids[if k.sort = 5 then j else 0] := by
  have h1 := ((Kind.good_iff _ _).1 hg).2.1
  have h2 : (if k.sort = 5 then j else 0) < k.kids.length := by
    unfold Tree.shape at ht
    rcases k.shape_iff.1 h1 with h | h | h
    · omega
    · rw [if_neg (by omega)]; omega
    · rw [if_pos h.1]; omega
  refine ⟨by omega, h2, ?_⟩
  unfold Kind.pick
  rw [List.getElem?_eq_getElem h2]
  rfl
end Go.Proofs.Ytbjblchhenmgjaa
set_option linter.unusedVariables false
set_option linter.unusedSimpArgs false
namespace Go.Proofs.Ytbjblchhenmgjaa
open Go.ChangeShapes Go.WideShapes Go.ChangeAt Go.RowKit

theorem goodK_mem : ∀ (l : List Kind) (lv : Nat), Kind.goodS l lv → ∀ x ∈ l, x.good lv
  | x :: r, lv, h, y, hy => by
    simp only [Kind.goodS] at h
    rcases List.mem_cons.1 hy with rfl | hy
    · exact h.1
    · exact goodK_mem r lv h.2 y hy
theorem first_goodS : ∀ (l : List Kind) (lv : Nat), (∀ x ∈ l, x.firstT.good lv) → Tree.goodS (l.map Kind.firstT) lv
  | [], _, _ => trivial
  | x :: r, lv, h => ⟨h x (by simp), first_goodS r lv (fun y hy => h y (by simp [hy]))⟩
theorem first_partsS : ∀ (l : List Kind), (∀ x ∈ l, x.firstT.parts ≤ x.parts) → Tree.partsS (l.map Kind.firstT) ≤ Kind.partsS l
  | [], _ => Nat.le_refl _
  | x :: r, h => by
    have h1 := h x (by simp)
    have h2 := first_partsS r (fun y hy => h y (by simp [hy]))
    simp only [List.map_cons, Tree.partsS, Kind.partsS]
    omega
theorem first_law (k : Kind) : ∀ lv, k.good lv → k.firstT.good lv ∧ k.firstT.of k ∧ k.firstT.parts ≤ k.parts := by
  refine Kind.ind (P := fun k => ∀ lv, k.good lv → k.firstT.good lv ∧ k.firstT.of k ∧ k.firstT.parts ≤ k.parts) (fun k ih => ?_) k
  intro lv h
  have hg := (Kind.good_iff _ _).1 h
  have hp := k.parts_eq
  have hk : ∀ x ∈ k.kids, x.firstT.good (lv + 1) ∧ x.firstT.of x ∧ x.firstT.parts ≤ x.parts := fun x hx => ih x hx (lv + 1) (goodK_mem _ _ hg.2.2 x hx)
  by_cases h5 : k.sort = 5
  · have hs : NamesOk k.names ∧ k.names.length = k.kids.length := by
      rcases k.shape_iff.1 hg.2.1 with h | h | h
      · omega
      · omega
      · exact h.2
    rw [k.firstT_five h5]
    have e1 : (Tree.mk k.sort 0 ByteArray.empty k.names (k.kids.map Kind.firstT)).parts = 1 + Tree.partsS (k.kids.map Kind.firstT) := rfl
    refine ⟨?_, ?_, ?_⟩
    · rw [Tree.good_iff]
      refine ⟨hg.1, ?_, first_goodS _ _ (fun x hx => (hk x hx).1)⟩
      unfold Tree.shape
      exact .inr (.inr (.inr (.inr (.inl ⟨h5, rfl, by simp [Tree.text], hs.1, by simp [Tree.names, Tree.kids, hs.2]⟩))))
    · rw [Tree.of_iff]
      refine ⟨rfl, rfl, fun j hj => ?_⟩
      have hj' : j < k.kids.length := by simpa [Tree.kids] using hj
      have e : k.pick j = k.kids[j] := by
        unfold Kind.pick
        rw [if_pos h5, List.getElem?_eq_getElem hj']
        rfl
      rw [e]
      have e2 : (Tree.mk k.sort 0 ByteArray.empty k.names (k.kids.map Kind.firstT)).kids[j] = k.kids[j].firstT := by simp [Tree.kids]
      rw [e2]
      exact (hk _ (List.getElem_mem hj')).2.1
    · rw [e1, hp]
      have := first_partsS k.kids (fun x hx => (hk x hx).2.2)
      omega
  · rw [k.firstT_other h5]
    have hn : k.names = [] ∧ (k.sort = 1 ∨ k.sort = 2 ∨ k.sort = 3 ∨ k.sort = 4 ∨ k.sort = 6) := by
      rcases k.shape_iff.1 hg.2.1 with h | h | h
      · exact ⟨List.eq_nil_of_length_eq_zero h.2.1, by omega⟩
      · exact ⟨List.eq_nil_of_length_eq_zero h.2.1, by omega⟩
      · exact absurd h.1 h5
    have ht : ByteArray.empty.toList = [] := by simp
    refine ⟨?_, ?_, ?_⟩
    · rw [Tree.good_iff]
      refine ⟨hg.1, ?_, trivial⟩
      have hx : ByteArray.empty.size = 0 := rfl
      unfold Tree.shape
      simp only [Tree.sort, Tree.num, Tree.text, Tree.names, Tree.kids, List.length_nil, ht]
      rcases hn.2 with h | h | h | h | h
      · exact .inl ⟨h, by omega, by trivial, by trivial, by trivial⟩
      · exact .inr (.inl ⟨h, by trivial, ⟨by omega, fun k hk => by omega⟩, by trivial, by trivial⟩)
      · exact .inr (.inr (.inl ⟨h, by omega, by trivial, by trivial, by trivial⟩))
      · exact .inr (.inr (.inr (.inl ⟨h, by trivial, by trivial, by trivial, by omega⟩)))
      · exact .inr (.inr (.inr (.inr (.inr ⟨h, by trivial, by trivial, by trivial, by omega⟩))))
    · rw [Tree.of_iff]
      exact ⟨rfl, hn.1, fun j hj => by simp [Tree.kids] at hj⟩
    · rw [hp]
      have : (Tree.mk k.sort 0 ByteArray.empty [] []).parts = 1 := rfl
      omega
theorem first_ok {k : Kind} (h : k.ok) : k.firstOf = k.firstT ∧ k.firstT.ok ∧ k.firstT.of k ∧ k.firstT.count ≤ 40 := by
  unfold Kind.ok Kind.fits at h
  obtain ⟨h1, h2, h3⟩ := first_law k 1 h.1
  have hk : k.firstT.ok := by
    unfold Tree.ok Tree.fits
    exact ⟨h1, by omega⟩
  refine ⟨by unfold Kind.firstOf; rw [tb_true (show k.ok from h)]; rfl, hk, h2, ?_⟩
  rw [Tree.count_yes hk]
  omega
end Go.Proofs.Ytbjblchhenmgjaa
set_option linter.unusedVariables false
set_option linter.unusedSimpArgs false
namespace Go.Proofs.Ytbjblchhenmgjaa
open Go.ChangeShapes Go.WideShapes Go.ChangeAt Go.RowKit

theorem anyKind_all {L : List UInt8} {k g : Nat} {w : World} (h : RdD w g L k) (hk : k ≤ 1000000) : Calls Try.prog 108 #[.pointer (some ⟨g, 0, none⟩)] w (KDraw g L k 3040 10310 w) :=
  l5AnyKind_of (fun x => Kind.ind spoilK_of x) h hk
def KDrawn (N : Nat) (w : World) (e : Ending) (w' : World) : Prop := ∃ (x : Kind) (us : List Value) (fq : List Nat), e = .returned (.agg us.toArray) ∧ OwC w' x.cells us fq ∧ New w' fq w.heap.size ∧ x.bulk ≤ N ∧ Below w.heap.size w w'
theorem Kind.firstT_bulk (k : Kind) : k.firstT.bulk ≤ k.bulk := by
  refine Kind.ind (P := fun k => k.firstT.bulk ≤ k.bulk) (fun k ih => ?_) k
  have hs : ∀ (l : List Kind), (∀ x ∈ l, x.firstT.bulk ≤ x.bulk) → Tree.bulkS (l.map Kind.firstT) ≤ Kind.bulkS l := by
    intro l
    induction l with
    | nil => intro _; exact Nat.le_refl _
    | cons x l ih =>
      intro h
      have h1 := h x (by simp)
      have h2 := ih (fun y hy => h y (by simp [hy]))
      simp only [List.map_cons, Tree.bulkS, Kind.bulkS]
      omega
  have h2 := hs k.kids ih
  by_cases h5 : k.sort = 5
  · rw [k.firstT_five h5, Tree.bulk_eq, k.bulk_eq]
    simp only [Tree.text, Tree.names, Tree.kids, List.length_map, ByteArray.size_empty]
    omega
  · rw [k.firstT_other h5, Tree.bulk_eq]
    simp only [Tree.text, Tree.names, Tree.kids, Tree.bulkS, List.length_nil, ByteArray.size_empty]
    have : bulkStrs [] = 0 := rfl
    omega
theorem Kind.firstOf_bulk (k : Kind) : k.firstOf.bulk ≤ k.bulk := by
  unfold Kind.firstOf
  by_cases h : tb k.ok = true
  · rw [if_pos h]; exact k.firstT_bulk
  · rw [if_neg h]; exact Nat.zero_le _
set_option maxRecDepth 100000 in
set_option maxHeartbeats 1000000 in
theorem drawKindFirst_any (l : List UInt8) (A : Option Addr) (n c : Nat) (fp : List Nat) (w : World) (ho : Ow w (.s 1 l.length (l.flatMap byteC)) (.slice A n c) fp) (hf : Lt fp w.heap.size) (hsz : l.length ≤ 1048576) :
    Calls Try.prog 43 #[.slice A n c] w (KDrawn 3040 w) := by
  have HO := hide ho
  clear ho
  go_enter Try.func43, Try.ntmps43
  go_upto_region 1 with fail
  generalize hw1 : w.alloc _ = w1
  have hb0 : Below w.heap.size w w1 := by rw [← hw1]; exact (Below.refl _ _).alloc (Nat.le_refl _) _
  have HZ := hide (show Row w1 w.heap.size 47 [.int .i64 0, .slice none 0 0, .slice none 0 0] from by rw [← hw1]; exact Row.new w _ _)
  have HP := hide (open_any l A n c fp w1 (HO.out.below hb0 hf) (hf.up hb0) hsz)
  have HB0 := hide hb0
  clear hw1 hb0
  go_wp2_with fail
  refine HP.out.mono ?_
  rintro e w2 ⟨L, rfl, hr2, hb2⟩
  have hlt : w.heap.size < w1.heap.size := HZ.out.lt
  have HD := hide (anyKind_all hr2 (by omega))
  have HZ2 := hide (HZ.out.below hb2 HZ.out.lt)
  have HB2 := hide (HB0.out.trans (hb2.mono HB0.out.size))
  have hsz2 := hb2.size
  clear hr2 hb2 HP HZ HB0 HO
  go_wp2_with fail
  refine HD.out.mono ?_
  rintro e w3 ⟨x, us, fq, k3, rfl, ho3, hn3, hx3, hk3, hr3, hg3⟩
  have HB3 := hide (show Below w.heap.size w w3 from HB2.out.trans (below_of_grown hg3 (Nat.le_of_lt hlt) HB2.out.size))
  have HZ3 := hide (HZ2.out.grown hg3 (fun e => by injection e with e; omega))
  have HO3 := hide ho3
  have HN3 := hide hn3
  have hno : w.heap.size ∉ fq := hn3.out (by omega)
  obtain ⟨B1, d1, B2, d2, f1, f2, rfl, -, -, -, -⟩ := ho3.oKind
  clear ho3 hn3 hr3 hg3 HD HB2 HZ2
  have z0 := HZ3.out.cell 0
  have y0 := HZ3.out.frozen 0
  have z1 := HZ3.out.cell 1
  have y1 := HZ3.out.frozen 1
  have z2 := HZ3.out.cell 2
  have y2 := HZ3.out.frozen 2
  have lz := HZ3.out.lt
  go_wp2
  have hgr := setN_grown [.int .i64 x.sort, .slice B1 x.names.length d1, .slice B2 x.kids.length d2] 0 (grown_refl w3 (some w.heap.size))
  refine bodyPost_ret (ret_row rfl _ _ w.heap.size 47 [.int .i64 x.sort, .slice B1 x.names.length d1, .slice B2 x.kids.length d2] (HZ3.out.setAll [.int .i64 x.sort, .slice B1 x.names.length d1, .slice B2 x.kids.length d2] rfl) _ rfl Try.underlying47 rfl (by kernel_rfl)) rfl ?_
  exact ⟨x, _, fq, rfl, HO3.out.grown hgr HN3.out.lt hno, (HN3.out.grown hgr (fun b e => by injection e with e; subst e; exact hno)).mono (by omega), hx3, HB3.out.trans (below_of_grown hgr (Nat.le_refl _) HB3.out.size)⟩
set_option maxRecDepth 100000 in
set_option maxHeartbeats 1000000 in
theorem drawKindWrite_any (l : List UInt8) (A : Option Addr) (n c : Nat) (fp : List Nat) (w : World) (ho : Ow w (.s 1 l.length (l.flatMap byteC)) (.slice A n c) fp) (hf : Lt fp w.heap.size) (hsz : l.length ≤ 1048576) :
    Calls Try.prog 37 #[.slice A n c] w (KDrawn 3040 w) := by
  have HO := hide ho
  clear ho
  go_enter Try.func37, Try.ntmps37
  go_upto_region 1 with fail
  generalize hw1 : w.alloc _ = w1
  have hb0 : Below w.heap.size w w1 := by rw [← hw1]; exact (Below.refl _ _).alloc (Nat.le_refl _) _
  have HZ := hide (show Row w1 w.heap.size 47 [.int .i64 0, .slice none 0 0, .slice none 0 0] from by rw [← hw1]; exact Row.new w _ _)
  have HP := hide (open_any l A n c fp w1 (HO.out.below hb0 hf) (hf.up hb0) hsz)
  have HB0 := hide hb0
  clear hw1 hb0
  go_wp2_with fail
  refine HP.out.mono ?_
  rintro e w2 ⟨L, rfl, hr2, hb2⟩
  have hlt : w.heap.size < w1.heap.size := HZ.out.lt
  have HD := hide (anyKind_all hr2 (by omega))
  have HZ2 := hide (HZ.out.below hb2 HZ.out.lt)
  have HB2 := hide (HB0.out.trans (hb2.mono HB0.out.size))
  have hsz2 := hb2.size
  clear hr2 hb2 HP HZ HB0 HO
  go_wp2_with fail
  refine HD.out.mono ?_
  rintro e w3 ⟨x, us, fq, k3, rfl, ho3, hn3, hx3, hk3, hr3, hg3⟩
  have HB3 := hide (show Below w.heap.size w w3 from HB2.out.trans (below_of_grown hg3 (Nat.le_of_lt hlt) HB2.out.size))
  have HZ3 := hide (HZ2.out.grown hg3 (fun e => by injection e with e; omega))
  have HO3 := hide ho3
  have HN3 := hide hn3
  have hno : w.heap.size ∉ fq := hn3.out (by omega)
  obtain ⟨B1, d1, B2, d2, f1, f2, rfl, -, -, -, -⟩ := ho3.oKind
  clear ho3 hn3 hr3 hg3 HD HB2 HZ2
  have z0 := HZ3.out.cell 0
  have y0 := HZ3.out.frozen 0
  have z1 := HZ3.out.cell 1
  have y1 := HZ3.out.frozen 1
  have z2 := HZ3.out.cell 2
  have y2 := HZ3.out.frozen 2
  have lz := HZ3.out.lt
  go_wp2
  have hgr := setN_grown [.int .i64 x.sort, .slice B1 x.names.length d1, .slice B2 x.kids.length d2] 0 (grown_refl w3 (some w.heap.size))
  refine bodyPost_ret (ret_row rfl _ _ w.heap.size 47 [.int .i64 x.sort, .slice B1 x.names.length d1, .slice B2 x.kids.length d2] (HZ3.out.setAll [.int .i64 x.sort, .slice B1 x.names.length d1, .slice B2 x.kids.length d2] rfl) _ rfl Try.underlying47 rfl (by kernel_rfl)) rfl ?_
  exact ⟨x, _, fq, rfl, HO3.out.grown hgr HN3.out.lt hno, (HN3.out.grown hgr (fun b e => by injection e with e; subst e; exact hno)).mono (by omega), hx3, HB3.out.trans (below_of_grown hgr (Nat.le_refl _) HB3.out.size)⟩
end Go.Proofs.Ytbjblchhenmgjaa
set_option linter.unusedVariables false
set_option linter.unusedSimpArgs false
namespace Go.Proofs.Ytbjblchhenmgjaa
open Go.ChangeShapes Go.WideShapes Go.ChangeAt Go.RowKit

def BendOut (g : Nat) (L : List UInt8) (k N : Nat) (w : World) (e : Ending) (w' : World) : Prop := ∃ (t : ByteArray) (k' : Nat), e = .returned (.string t) ∧ t.size ≤ N ∧ k' ≤ k + 3 ∧ RdD w' g L k' ∧ w.grownBy w' (some g)
def LitOut (g : Nat) (L : List UInt8) (k : Nat) (l : List ByteArray) (w : World) (e : Ending) (w' : World) : Prop := ∃ x ∈ l, e = .returned (.string x) ∧ RdD w' g L (k + 1) ∧ w.grownBy w' (some g)
/-- one of some texts that are laid out just now -/
theorem lit_of {L : List UInt8} {k g : Nat} {W : World} (h : RdD W g L k) (hk : k ≤ 1000000000) (l : List ByteArray) (hl0 : 1 ≤ l.length) (hl : l.length ≤ 1000) :
    Calls Try.prog 112 #[.pointer (some ⟨g, 0, none⟩), .slice (some ⟨W.heap.size, 0, none⟩) l.length l.length] (W.alloc (.cells (l.map Value.string).toArray 9)) (LitOut g L k l W) := by
  have hA : Below W.heap.size W (W.alloc (.cells (l.map Value.string).toArray 9)) := (Below.refl _ _).alloc (Nat.le_refl _) _
  have hg := h.lt
  refine (of_any (h.below hA) hk l W.heap.size l.length hl0 hl (by omega) (by rw [World.size_alloc]; omega) (fun j hj => ?_)).mono ?_
  · rw [(Row.new W 9 (l.map Value.string)).cell j, List.getElem?_map, List.getElem?_eq_getElem hj]
    rfl
  · rintro e w' ⟨x, hx, rfl, hr, hgr⟩
    exact ⟨x, hx, rfl, hr, only_trans (grownBy_below hA (some g)) hgr⟩
set_option maxRecDepth 100000 in
set_option maxHeartbeats 2000000 in
theorem bend_any {L : List UInt8} {k g : Nat} {w : World} (h : RdD w g L k) (hk : k ≤ 1000000) (s : ByteArray) (hs : s.size ≤ 1000000) :
    Calls Try.prog 114 #[.pointer (some ⟨g, 0, none⟩), .string s] w (BendOut g L k (s.size + 2) w) := by
  have HR := hide h
  clear h
  by_cases h0 : s.size = 0
  · have h0i : (s.size : Int) = 0 := by omega
    have HC := hide (lit_of (W := w) HR.out (by omega) ([⟨#[32]⟩, ⟨#[48]⟩, ⟨#[123, 125]⟩] : List ByteArray) (by decide) (by decide))
    have HS := hide h0
    clear h0
    go_enter Try.func114, Try.ntmps114
    go_wp2_with fail
    refine HC.out.mono ?_
    rintro e w2 ⟨x, hx, rfl, hr2, hg2⟩
    have hx2 : x.size ≤ 2 := (by
    simp only [List.mem_cons, List.not_mem_nil, or_false] at hx
    rcases hx with rfl | rfl | rfl <;> decide)
    have HX := hide hx2
    clear hx hx2
    go_wp2
    go_ret
    exact ⟨x, k + 1, rfl, by have := HX.out; omega, by omega, hr2, hg2⟩
  have h0i : ¬ ((s.size : Int) = 0) := by omega
  have HP := hide (pick_any HR.out (n := s.size) (by omega) (by omega) (by omega))
  go_enter Try.func114, Try.ntmps114
  go_wp2_with fail
  refine HP.out.mono ?_
  rintro e w2 ⟨i, rfl, hi, hr2, hg2⟩
  have HP2 := hide (pick_any hr2 (n := 6) (by omega) (by omega) (by omega))
  have HG2 := hide hg2
  clear hr2 hg2 HP
  go_wp2_with fail
  refine HP2.out.mono ?_
  rintro e w3 ⟨v, rfl, hv, hr3, hg3⟩
  have HR3 := hide hr3
  have HG3 := hide (only_trans HG2.out hg3)
  clear hr3 hg3 HP2 HG2 HR
  have hi1 : (0 : Int) ≤ (i : Int) := by omega
  have hi2 : (i : Int) ≤ (s.size : Int) := by omega
  have hi3 : (i : Int) + 1 ≤ (s.size : Int) := by omega
  have hi4 : (0 : Int) ≤ (i : Int) + 1 := by omega
  have hw1 : IntKind.i64.wrap ((i : Int) + 1) = (i : Int) + 1 := wrapI _ (by omega) (by omega)
  have HE1 := hide (show (s.extract 0 i).size = i by rw [ByteArray.size_extract]; omega)
  have HE2 := hide (show (s.extract i s.size).size = s.size - i by rw [ByteArray.size_extract]; omega)
  have HE3 := hide (show (s.extract (i + 1) s.size).size = s.size - (i + 1) by rw [ByteArray.size_extract]; omega)
  have hv6 : v = 0 ∨ v = 1 ∨ v = 2 ∨ v = 3 ∨ v = 4 ∨ v = 5 := by omega
  clear hv
  rcases hv6 with rfl | rfl | rfl | rfl | rfl | rfl
  · go_wp2
    go_ret
    exact ⟨_, k + 2, rfl, by have := HE1.out; omega, by omega, HR3.out, HG3.out⟩
  · go_wp2
    go_quiet (fail)
    go_wp2
    go_ret
    exact ⟨_, k + 2, rfl, by rw [ByteArray.size_append]; have := HE1.out; have := HE3.out; omega, by omega, HR3.out.drewN _, only_drewN HG3.out _⟩
  · have HC := hide (lit_of (W := w3.drew) (HR3.out.drewN 1) (by omega) ([⟨#[32]⟩, ⟨#[44]⟩, ⟨#[48]⟩, ⟨#[45]⟩, ⟨#[34]⟩, ⟨#[126]⟩, ⟨#[63]⟩, ⟨#[93]⟩, ⟨#[125]⟩, ⟨#[97]⟩] : List ByteArray) (by decide) (by decide))
    go_wp2_with fail
    go_region_held3 (fun W => W.os = w3.os) (first | rfl | exact hos7)
      (first | (go_at_call 112; refine HC.out.mono ?_; rintro e w7 ⟨x, hx, rfl, hr7, hg7⟩; have hos7 : w7.os = w3.os := hg7.os; have hx1 : x.size ≤ 1 := (by    simp only [List.mem_cons, List.not_mem_nil, or_false] at hx; rcases hx with rfl | rfl | rfl | rfl | rfl | rfl | rfl | rfl | rfl | rfl <;> decide); have HX := hide hx1; have HR7 := hide hr7; have HG7 := hide (only_trans (only_drewN HG3.out 1) hg7); have n1 : ¬ (9223372036854775807 < min i s.size + x.size) := (by omega); have n2 : ¬ (9223372036854775807 < min i s.size + x.size + (s.size - i)) := (by omega); clear hx hr7 hg7 hx1))
    all_goals
      go_wp2
      go_ret
      exact ⟨_, k + 3, rfl, by rw [ByteArray.size_append, ByteArray.size_append]; have := HE1.out; have := HE2.out; have := HE3.out; have := HX.out; omega, Nat.le_refl _, HR7.out, HG7.out⟩
  · have HC := hide (lit_of (W := w3.drew) (HR3.out.drewN 1) (by omega) ([⟨#[32]⟩, ⟨#[44]⟩, ⟨#[48]⟩, ⟨#[45]⟩, ⟨#[34]⟩, ⟨#[126]⟩, ⟨#[63]⟩, ⟨#[91]⟩, ⟨#[123]⟩, ⟨#[97]⟩, ⟨#[57]⟩] : List ByteArray) (by decide) (by decide))
    go_wp2_with fail
    go_region_held3 (fun W => W.os = w3.os) (first | rfl | exact hos7)
      (first | (go_at_call 112; refine HC.out.mono ?_; rintro e w7 ⟨x, hx, rfl, hr7, hg7⟩; have hos7 : w7.os = w3.os := hg7.os; have hx1 : x.size ≤ 1 := (by    simp only [List.mem_cons, List.not_mem_nil, or_false] at hx; rcases hx with rfl | rfl | rfl | rfl | rfl | rfl | rfl | rfl | rfl | rfl | rfl <;> decide); have HX := hide hx1; have HR7 := hide hr7; have HG7 := hide (only_trans (only_drewN HG3.out 1) hg7); have n1 : ¬ (9223372036854775807 < min i s.size + x.size) := (by omega); have n2 : ¬ (9223372036854775807 < min i s.size + x.size + (s.size - (i + 1))) := (by omega); clear hx hr7 hg7 hx1))
    all_goals
      go_wp2
      go_ret
      exact ⟨_, k + 3, rfl, by rw [ByteArray.size_append, ByteArray.size_append]; have := HE1.out; have := HE2.out; have := HE3.out; have := HX.out; omega, Nat.le_refl _, HR7.out, HG7.out⟩
  · have HC := hide (lit_of (W := w3) HR3.out (by omega) ([⟨#[32]⟩, ⟨#[44]⟩, ⟨#[48]⟩, ⟨#[125]⟩, ⟨#[10]⟩] : List ByteArray) (by decide) (by decide))
    go_wp2_with fail
    refine HC.out.mono ?_
    rintro e w7 ⟨x, hx, rfl, hr7, hg7⟩
    have hx1 : x.size ≤ 1 := (by
    simp only [List.mem_cons, List.not_mem_nil, or_false] at hx
    rcases hx with rfl | rfl | rfl | rfl | rfl <;> decide)
    have HX := hide hx1
    have HR7 := hide hr7
    have HG7 := hide (only_trans HG3.out hg7)
    have n1 : ¬ (9223372036854775807 < s.size + x.size) := by omega
    clear hx hr7 hg7 hx1
    go_wp2
    go_ret
    exact ⟨_, k + 3, rfl, by rw [ByteArray.size_append]; have := HX.out; omega, Nat.le_refl _, HR7.out, HG7.out⟩
  · have HC := hide (lit_of (W := w3) HR3.out (by omega) ([⟨#[32]⟩, ⟨#[43]⟩, ⟨#[48]⟩] : List ByteArray) (by decide) (by decide))
    go_wp2_with fail
    refine HC.out.mono ?_
    rintro e w7 ⟨x, hx, rfl, hr7, hg7⟩
    have hx1 : x.size ≤ 1 := (by
    simp only [List.mem_cons, List.not_mem_nil, or_false] at hx
    rcases hx with rfl | rfl | rfl <;> decide)
    have HX := hide hx1
    have HR7 := hide hr7
    have HG7 := hide (only_trans HG3.out hg7)
    have n1 : ¬ (9223372036854775807 < x.size + s.size) := by omega
    clear hx hr7 hg7 hx1
    go_wp2
    go_ret
    exact ⟨_, k + 3, rfl, by rw [ByteArray.size_append]; have := HX.out; omega, Nat.le_refl _, HR7.out, HG7.out⟩
end Go.Proofs.Ytbjblchhenmgjaa
