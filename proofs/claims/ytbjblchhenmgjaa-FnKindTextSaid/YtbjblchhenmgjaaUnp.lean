/-
  An event read back from its bytes: plain definitions.
-/
import Derived.Test.YtbjblchhenmgjaaEventPack
import Derived.Test.YtbjblchhenmgjaaTxt
set_option linter.unusedVariables false
set_option linter.unusedSimpArgs false
namespace Go.Proofs.Ytbjblchhenmgjaa
open Go.ChangeShapes Go.WideShapes Go.ChangeAt Go.RowKit

def pOne : List UInt8 → Option (Int × List UInt8)
  | [] => none
  | x :: r => some ((x.toNat : Int), r)
def pShort : List UInt8 → Option (ByteArray × List UInt8)
  | [] => none
  | x :: r => if x.toNat ≤ r.length then some (ba (r.take x.toNat), r.drop x.toNat) else none
/-- a size by sevens, of so many bytes at most; strict: it must end -/
def pSev (strict : Bool) : Nat → Nat → Nat → List UInt8 → Option (Nat × List UInt8)
  | 0, _, n, l => if strict then none else some (n, l)
  | _ + 1, _, _, [] => none
  | k + 1, p, n, x :: l => if x.toNat < 128 then some (n + x.toNat % 128 * p, l) else pSev strict k (p * 128) (n + x.toNat % 128 * p) l
def signed (s : UInt8) (n : Nat) : Int := if s.toNat = 1 then -(n : Int) else (n : Int)
def pNum (strict : Bool) : List UInt8 → Option (Int × List UInt8)
  | [] => none
  | s :: r => (pSev strict 5 1 0 r).map (fun p => (signed s p.1, p.2))
/-- so many kids, with names if it is a form; what is there already stands ahead -/
def pKids (rd : List UInt8 → Option (Tree × List UInt8)) (form : Bool) : Nat → List ByteArray → List Tree → List UInt8 → Option (List ByteArray × List Tree × List UInt8)
  | 0, ns, ks, l => some (ns, ks, l)
  | n + 1, ns, ks, l =>
    match (if form then pShort l else some (.empty, l)) with
    | none => none
    | some (s, l1) =>
      match rd l1 with
      | none => none
      | some (t, l2) => pKids rd form n (if form then ns ++ [s] else ns) (ks ++ [t]) l2
def pMany (rd : List UInt8 → Option (Tree × List UInt8)) (s : Nat) : List UInt8 → Option (Tree × List UInt8)
  | [] => none
  | n :: l => (pKids rd (s == 5) n.toNat [] [] l).map (fun p => (.mk (s : Int) 0 .empty p.1 p.2.1, p.2.2))
def pTree (strict : Bool) : Nat → List UInt8 → Option (Tree × List UInt8)
  | 0, _ => none
  | _ + 1, [] => none
  | f + 1, s :: l =>
    if s.toNat = 1 then (pNum strict l).map (fun p => (.mk 1 p.1 .empty [] [], p.2))
    else if s.toNat = 2 then (pShort l).map (fun p => (.mk 2 0 p.1 [] [], p.2))
    else if s.toNat = 3 then (pOne l).map (fun p => (.mk 3 p.1 .empty [] [], p.2))
    else pMany (pTree strict f) s.toNat l
def pEvent (strict : Bool) (l : List UInt8) : Option (Event × List UInt8) :=
  match pShort l with
  | none => none
  | some (ty, l1) =>
    match pOne l1 with
    | none => none
    | some (v, l2) => (pTree strict 6 l2).map (fun p => (⟨ty, v, p.1⟩, p.2))

/-! ### What is packed is read back -/
theorem u8_nat (n : Nat) (h : n < 256) : (UInt8.ofNat n).toNat = n := by simp [UInt8.toNat_ofNat]; omega
theorem pShort_back (s : ByteArray) (h : s.size < 256) (r : List UInt8) : pShort (short s ++ r) = some (s, r) := by
  have hl : s.data.toList.length = s.size := by rw [Array.length_toList]; rfl
  simp only [short, List.cons_append, pShort, u8_nat _ h]
  rw [if_pos (by rw [List.length_append, hl]; omega), ← hl, List.take_left, List.drop_left]
  simp [ba]
theorem pSev_back (strict : Bool) : ∀ (k n p a : Nat) (r : List UInt8), n < 128 ^ (k + 1) → pSev strict (k + 1) p a (sevens n ++ r) = some (a + n * p, r)
  | 0, n, p, a, r, h => by
    have h' : n < 128 := by simpa using h
    rw [sevens_lt h']
    simp only [List.cons_append, List.nil_append, pSev, u8_nat n (by omega)]
    rw [if_pos h', Nat.mod_eq_of_lt h']
  | k + 1, n, p, a, r, h => by
    by_cases h1 : n < 128
    · rw [sevens_lt h1]
      simp only [List.cons_append, List.nil_append, pSev, u8_nat n (by omega)]
      rw [if_pos h1, Nat.mod_eq_of_lt h1]
    · rw [sevens_ge (by omega), List.cons_append, pSev, u8_nat _ (by omega), if_neg (by omega)]
      rw [pSev_back strict k (n / 128) _ _ r (by rw [Nat.div_lt_iff_lt_mul (by decide)]; rwa [Nat.pow_succ] at h)]
      have e1 : (n % 128 + 128) % 128 = n % 128 := by omega
      rw [e1]
      congr 2
      have e2 := Nat.div_add_mod n 128
      have e3 : n / 128 * (p * 128) = 128 * (n / 128) * p := by rw [Nat.mul_comm p 128, ← Nat.mul_assoc, Nat.mul_comm (n / 128) 128]
      rw [e3, Nat.add_assoc, ← Nat.add_mul, Nat.add_comm (n % 128)]
      rw [e2]
theorem pNum_back (strict : Bool) (n : Int) (h1 : -999999999 ≤ n) (h2 : n ≤ 999999999) (r : List UInt8) : pNum strict (numB n ++ r) = some (n, r) := by
  have e5 : (128 : Nat) ^ (4 + 1) = 34359738368 := by decide
  simp only [numB, List.cons_append, pNum]
  rw [pSev_back strict 4 n.natAbs 1 0 r (by omega)]
  simp only [Option.map_some, Nat.zero_add, Nat.mul_one]
  unfold signed
  by_cases h : n < 0
  · rw [if_pos h, if_pos (by decide)]
    congr 2
    omega
  · rw [if_neg h, if_neg (by decide)]
    congr 2
    omega
theorem pKids_back (rd : List UInt8 → Option (Tree × List UInt8)) (form : Bool) : ∀ (l : List Tree) (ns : List ByteArray) (an : List ByteArray) (ak : List Tree) (r : List UInt8), (form = true → ns.length = l.length) → (∀ s ∈ ns, s.size ≤ 8) →
    (∀ x ∈ l, ∀ r, rd (x.pack ++ r) = some (x, r)) → pKids rd form l.length an ak (Tree.packS form ns l ++ r) = some (if form then an ++ ns else an, ak ++ l, r)
  | [], ns, an, ak, r, hn, hs, hr => by
    simp only [List.length_nil, pKids, Tree.packS, List.nil_append, List.append_nil]
    cases form
    · rfl
    · have : ns = [] := List.eq_nil_of_length_eq_zero (by simpa using hn rfl)
      simp [this]
  | t :: l, ns, an, ak, r, hn, hs, hr => by
    simp only [List.length_cons, pKids, Tree.packS]
    cases form
    · simp only [Bool.false_eq_true, if_false, List.nil_append, List.append_assoc]
      rw [hr t (by simp)]
      simp only
      rw [pKids_back rd false l ns.tail an (ak ++ [t]) r (by simp) (fun s h => hs s (List.mem_of_mem_tail h)) (fun x hx => hr x (by simp [hx]))]
      simp
    · match ns, hn rfl with
      | s :: ns, h =>
        simp only [if_true, List.headD_cons, List.tail_cons, List.append_assoc]
        rw [pShort_back s (by have := hs s (by simp); omega)]
        simp only
        rw [hr t (by simp)]
        simp only
        rw [pKids_back rd true l ns (an ++ [s]) (ak ++ [t]) r (fun _ => by simpa using h) (fun x hx => hs x (by simp [hx])) (fun x hx => hr x (by simp [hx]))]
        simp
theorem mk_tree {t : Tree} {s n : Int} {x : ByteArray} {ns : List ByteArray} {ks : List Tree} (h1 : t.sort = s) (h2 : t.num = n) (h3 : t.text = x) (h4 : t.names = ns) (h5 : t.kids = ks) : (Tree.mk s n x ns ks) = t := by
  cases t
  simp only [Tree.sort, Tree.num, Tree.text, Tree.names, Tree.kids] at *
  subst h1 h2 h3 h4 h5
  rfl
theorem txt_nil {s : ByteArray} (h : s.toList = []) : s = .empty := txt_inj (by rw [h, ByteArray.toList_eq]; rfl)
theorem nil_of {α : Type} {l : List α} (h : l.length = 0) : l = [] := List.eq_nil_of_length_eq_zero h
theorem Tree.kids_le : ∀ (l : List Tree), l.length ≤ Tree.partsS l
  | [] => by simp
  | x :: r => by
    have := Tree.kids_le r
    have := x.parts_eq
    simp only [List.length_cons, Tree.partsS]
    omega
theorem Tree.partsS_mem : ∀ (l : List Tree), ∀ x ∈ l, x.parts ≤ Tree.partsS l
  | x :: r, y, hy => by
    simp only [Tree.partsS]
    rcases List.mem_cons.1 hy with rfl | hy
    · omega
    · have := Tree.partsS_mem r y hy
      omega
theorem pTree_back (strict : Bool) : ∀ (t : Tree) (lv f : Nat) (r : List UInt8), t.good lv → t.parts ≤ 120 → 7 ≤ lv + f → pTree strict f (t.pack ++ r) = some (t, r) := by
  intro t
  refine Tree.ind (P := fun t => ∀ (lv f : Nat) (r : List UInt8), t.good lv → t.parts ≤ 120 → 7 ≤ lv + f → pTree strict f (t.pack ++ r) = some (t, r)) (fun t ih => ?_) t
  intro lv f r h hp hf
  have hg := (Tree.good_iff _ _).1 h
  have hs := hg.2.1
  have hnm := Tree.names_le hs
  have hpe := t.parts_eq
  have hkl := Tree.kids_le t.kids
  unfold Tree.shape at hs
  obtain ⟨f, rfl⟩ : ∃ f', f = f' + 1 := ⟨f - 1, by omega⟩
  have hso : (UInt8.ofNat t.sort.toNat).toNat = t.sort.toNat := u8_nat _ (by omega)
  have hk : ∀ x ∈ t.kids, ∀ r, pTree strict f (x.pack ++ r) = some (x, r) := fun x hx r => ih x hx (lv + 1) f r (Tree.goodS_mem _ _ hg.2.2 x hx) (by have := Tree.partsS_mem t.kids x hx; omega) (by omega)
  have hcnt : (UInt8.ofNat t.kids.length).toNat = t.kids.length := u8_nat _ (by omega)
  rw [t.pack_eq, List.cons_append, pTree, hso]
  rcases hs with ⟨e, h1, h2, h3, h4⟩ | ⟨e, h1, h2, h3, h4⟩ | ⟨e, h1, h2, h3, h4⟩ | ⟨e, h1, h2, h3, h4⟩ | ⟨e, h1, h2, h3, h4⟩ | ⟨e, h1, h2, h3, h4⟩
  · rw [if_pos (by omega), if_pos e, pNum_back strict _ h1.1 h1.2]
    simp only [Option.map_some]
    rw [mk_tree (t := t) e rfl (txt_nil h2) (nil_of h3) (nil_of h4)]
  · rw [if_neg (by omega), if_pos (by omega), if_neg (by omega), if_pos e, pShort_back _ (by have := h2.1; omega)]
    simp only [Option.map_some]
    rw [mk_tree (t := t) e h1 rfl (nil_of h3) (nil_of h4)]
  · rw [if_neg (by omega), if_neg (by omega), if_pos (by omega), if_neg (by omega), if_neg (by omega), if_pos e]
    simp only [List.cons_append, List.nil_append, pOne, Option.map_some, u8_nat t.num.toNat (by omega)]
    rw [mk_tree (t := t) e (show t.num = (t.num.toNat : Int) by omega) (txt_nil h2) (nil_of h3) (nil_of h4)]
  all_goals
    rw [if_neg (by omega), if_neg (by omega), if_neg (by omega), if_neg (by omega), if_neg (by omega), if_neg (by omega)]
    simp only [List.cons_append, pMany, hcnt]
  · have e1 : (t.sort == 5) = false := by simp; omega
    have e2 : (t.sort.toNat == 5) = false := by simp; omega
    rw [e1, e2, pKids_back _ false t.kids t.names [] [] r (by simp) hnm hk]
    simp only [Option.map_some, List.nil_append, Bool.false_eq_true, if_false]
    rw [mk_tree (t := t) (show t.sort = (t.sort.toNat : Int) by omega) h1 (txt_nil h2) (nil_of h3) rfl]
  · have e1 : (t.sort == 5) = true := by simp; omega
    have e2 : (t.sort.toNat == 5) = true := by simp; omega
    rw [e1, e2, pKids_back _ true t.kids t.names [] [] r (fun _ => h4) hnm hk]
    simp only [Option.map_some, List.nil_append, if_true]
    rw [mk_tree (t := t) (show t.sort = (t.sort.toNat : Int) by omega) h1 (txt_nil h2) rfl rfl]
  · have e1 : (t.sort == 5) = false := by simp; omega
    have e2 : (t.sort.toNat == 5) = false := by simp; omega
    rw [e1, e2, pKids_back _ false t.kids t.names [] [] r (by simp) hnm hk]
    simp only [Option.map_some, List.nil_append, Bool.false_eq_true, if_false]
    rw [mk_tree (t := t) (show t.sort = (t.sort.toNat : Int) by omega) h1 (txt_nil h2) (nil_of h3) rfl]
theorem pEvent_back (strict : Bool) (x : Event) (h : x.ok) : pEvent strict x.bytes = some (x, []) := by
  unfold Event.bytes pEvent
  have h1 := h.1.2.1
  have h2 := h.2.1
  rw [List.append_assoc, pShort_back _ (by omega)]
  simp only [List.cons_append, List.nil_append, pOne, u8_nat x.version.toNat (by omega)]
  have h3 := pTree_back strict x.body 1 6 [] h.2.2.2.1 (by have := h.2.2.2.2; omega) (by omega)
  rw [List.append_nil] at h3
  rw [h3]
  simp only [Option.map_some]
  have e : ((x.version.toNat : Nat) : Int) = x.version := by omega
  rw [e]

/-! ### What is read is not larger than what was there -/
theorem pShort_bulk {l : List UInt8} {s : ByteArray} {r : List UInt8} (h : pShort l = some (s, r)) : s.size + r.length + 1 = l.length ∧ s.size ≤ 255 := by
  cases l with
  | nil => simp [pShort] at h
  | cons x l =>
    simp only [pShort] at h
    split at h
    · rename_i hx
      injection h with h
      injection h with h1 h2
      subst h1 h2
      have := x.toNat_lt
      simp only [ba_size, List.length_take, List.length_drop, List.length_cons]
      omega
    · cases h
theorem pOne_bulk {l : List UInt8} {n : Int} {r : List UInt8} (h : pOne l = some (n, r)) : r.length + 1 = l.length ∧ 0 ≤ n ∧ n ≤ 255 := by
  cases l with
  | nil => simp [pOne] at h
  | cons x l =>
    simp only [pOne] at h
    injection h with h
    injection h with h1 h2
    subst h1 h2
    have := x.toNat_lt
    refine ⟨by simp, by omega, by omega⟩
theorem pSev_bulk (strict : Bool) : ∀ (k p n : Nat) (l : List UInt8) {m : Nat} {r : List UInt8}, pSev strict k p n l = some (m, r) → r.length ≤ l.length
  | 0, _, _, l, m, r, h => by
    simp only [pSev] at h
    split at h
    · cases h
    · injection h with h
      injection h with h1 h2
      subst h2
      exact Nat.le_refl _
  | k + 1, _, _, [], m, r, h => by simp [pSev] at h
  | k + 1, p, n, x :: l, m, r, h => by
    simp only [pSev] at h
    simp only [List.length_cons]
    split at h
    · injection h with h
      injection h with h1 h2
      subst h2
      omega
    · have := pSev_bulk strict k _ _ l h
      omega
theorem pNum_bulk {strict : Bool} {l : List UInt8} {n : Int} {r : List UInt8} (h : pNum strict l = some (n, r)) : r.length + 1 ≤ l.length := by
  cases l with
  | nil => simp [pNum] at h
  | cons s l =>
    simp only [pNum, Option.map_eq_some_iff] at h
    obtain ⟨⟨a, b⟩, h1, h2⟩ := h
    injection h2 with h2 h3
    subst h3
    have := pSev_bulk strict _ _ _ _ h1
    simp only [List.length_cons]
    omega
theorem pKids_bulk {rd : List UInt8 → Option (Tree × List UInt8)} (form : Bool) (hrd : ∀ {l : List UInt8} {t : Tree} {r : List UInt8}, rd l = some (t, r) → t.bulk + r.length + 1 ≤ l.length) : ∀ (n : Nat) (ns : List ByteArray) (ks : List Tree) (l : List UInt8) {ns' : List ByteArray} {ks' : List Tree} {r : List UInt8},
    pKids rd form n ns ks l = some (ns', ks', r) → bulkStrs ns' + ks'.length + Tree.bulkS ks' + r.length ≤ bulkStrs ns + ks.length + Tree.bulkS ks + l.length
  | 0, ns, ks, l, ns', ks', r, h => by
    simp only [pKids, Option.some.injEq, Prod.mk.injEq] at h
    obtain ⟨rfl, rfl, rfl⟩ := h
    exact Nat.le_refl _
  | n + 1, ns, ks, l, ns', ks', r, h => by
    simp only [pKids] at h
    split at h
    · cases h
    · rename_i s l1 h1
      split at h
      · cases h
      · rename_i t l2 h2
        have h3 := pKids_bulk form hrd n _ _ _ h
        have h4 := hrd h2
        have h5 : Tree.bulkS (ks ++ [t]) = Tree.bulkS ks + t.bulk := by rw [Tree.bulkS_append]; simp [Tree.bulkS]
        rw [h5, List.length_append] at h3
        simp only [List.length_cons, List.length_nil] at h3
        cases form
        · simp only [Bool.false_eq_true, if_false, Option.some.injEq, Prod.mk.injEq] at h1 h3
          obtain ⟨_, rfl⟩ := h1
          omega
        · simp only [if_true] at h1 h3
          have h6 := pShort_bulk h1
          have h7 : bulkStrs (ns ++ [s]) = bulkStrs ns + s.size + 1 := by
            unfold bulkStrs
            rw [bulkStr_append, List.length_append]
            simp [bulkStr]
            omega
          omega
theorem pTree_bulk (strict : Bool) : ∀ (f : Nat) {l : List UInt8} {t : Tree} {r : List UInt8}, pTree strict f l = some (t, r) → t.bulk + r.length + 1 ≤ l.length
  | 0, l, t, r, h => by simp [pTree] at h
  | f + 1, [], t, r, h => by simp [pTree] at h
  | f + 1, s :: l, t, r, h => by
    simp only [pTree] at h
    have eb : (ByteArray.empty).size = 0 := rfl
    simp only [List.length_cons]
    split at h
    · simp only [Option.map_eq_some_iff, Prod.mk.injEq] at h
      obtain ⟨⟨a, b⟩, h1, rfl, rfl⟩ := h
      have := pNum_bulk h1
      simp only [Tree.bulk, bulkStrs, bulkStr, Tree.bulkS, List.length_nil, eb]
      omega
    split at h
    · simp only [Option.map_eq_some_iff, Prod.mk.injEq] at h
      obtain ⟨⟨a, b⟩, h1, rfl, rfl⟩ := h
      have := pShort_bulk h1
      simp only [Tree.bulk, bulkStrs, bulkStr, Tree.bulkS, List.length_nil]
      omega
    split at h
    · simp only [Option.map_eq_some_iff, Prod.mk.injEq] at h
      obtain ⟨⟨a, b⟩, h1, rfl, rfl⟩ := h
      have := pOne_bulk h1
      simp only [Tree.bulk, bulkStrs, bulkStr, Tree.bulkS, List.length_nil, eb]
      omega
    cases l with
    | nil => simp [pMany] at h
    | cons n l' =>
      simp only [pMany, Option.map_eq_some_iff, Prod.mk.injEq] at h
      obtain ⟨⟨a, b, c⟩, h1, rfl, rfl⟩ := h
      have := pKids_bulk _ (fun h => pTree_bulk strict f h) _ _ _ _ h1
      simp only [Tree.bulk, bulkStrs, bulkStr, Tree.bulkS, List.length_nil, List.length_cons, eb] at this ⊢
      omega
theorem pEvent_bulk {strict : Bool} {l : List UInt8} {x : Event} {r : List UInt8} (h : pEvent strict l = some (x, r)) : x.bulk ≤ l.length := by
  unfold pEvent at h
  split at h
  · cases h
  · rename_i ty l1 h1
    split at h
    · cases h
    · rename_i v l2 h2
      simp only [Option.map_eq_some_iff, Prod.mk.injEq] at h
      obtain ⟨⟨a, b⟩, h3, rfl, rfl⟩ := h
      have := pShort_bulk h1
      have := pOne_bulk h2
      have := pTree_bulk strict _ h3
      show ty.size + a.bulk ≤ _
      omega

/-! ### What EventUnpack answers -/
def Event.none_ : Event := ⟨.empty, 0, .mk 0 0 .empty [] []⟩
def Event.from (l : List UInt8) (x : Event) : Prop := x.ok ∧ x.bytes = l ∧ l.length ≤ 9000
open Classical in
noncomputable def unpackE (l : List UInt8) : Event := if h : ∃ x, Event.from l x then h.choose else Event.none_
noncomputable def unpackB (l : List UInt8) : Bool := tb (∃ x, Event.from l x)
theorem unpack_yes {l : List UInt8} {x : Event} (h : Event.from l x) : unpackE l = x ∧ unpackB l = true := by
  have hex : ∃ x, Event.from l x := ⟨x, h⟩
  refine ⟨?_, tb_true hex⟩
  unfold unpackE
  rw [dif_pos hex]
  have hy := hex.choose_spec
  have h1 := pEvent_back true _ hy.1
  have h2 := pEvent_back true _ h.1
  rw [hy.2.1] at h1
  rw [h.2.1, h1] at h2
  simp only [Option.some.injEq, Prod.mk.injEq, and_true] at h2
  exact h2
theorem unpack_no {l : List UInt8} (h : ∀ x, ¬ Event.from l x) : unpackE l = Event.none_ ∧ unpackB l = false := by
  have hex : ¬ ∃ x, Event.from l x := fun ⟨x, hx⟩ => h x hx
  refine ⟨?_, tb_false hex⟩
  unfold unpackE
  rw [dif_neg hex]
/-- what a reader that goes wrong, or leaves something, has found -/
theorem unpack_bad {strict : Bool} {l : List UInt8} (h : ∀ x, pEvent strict l ≠ some (x, [])) : unpackE l = Event.none_ ∧ unpackB l = false :=
  unpack_no (fun x hx => h x (by rw [← hx.2.1]; exact pEvent_back strict x hx.1))
theorem unpack_other {strict : Bool} {l : List UInt8} {x : Event} (h : pEvent strict l = some (x, [])) (hn : ¬ Event.from l x) : unpackE l = Event.none_ ∧ unpackB l = false :=
  unpack_no (fun y hy => by
    have h1 := pEvent_back strict y hy.1
    rw [hy.2.1, h] at h1
    simp only [Option.some.injEq, Prod.mk.injEq, and_true] at h1
    subst h1
    exact hn hy)
end Go.Proofs.Ytbjblchhenmgjaa
