/-
  The bytes of texts, names, and what a reader takes: plain. Event as data: its cells, its size. Event: what the laws' own helpers do: the size, a copy, equality. Events that are ok: the program's and the reference's EventOk answer alike. When a tree is of a schema: plain definitions. KindHas of the reference: l2Has. From the form's reading of an argument to the words of the walks.
-/
import Derived.Test.YtnaecdoeldoipaaGreatDoorKTxt
import Derived.Test.YtnaecdoeldoipaaGreatDoorKDTree
import Derived.Test.YtnaecdoeldoipaaGreatDoorKKid
import Derived.Test.YtnaecdoeldoipaaGreatDoorKTreeParts
set_option linter.unusedVariables false
set_option linter.unusedSimpArgs false
namespace Go.Proofs.YtnaecdoeldoipaaGreatDoor
open Go.ChangeShapes Go.WideShapes Go.ChangeAt Go.RowKit

/-- the bytes of a text -/
def bl (b : ByteArray) : List UInt8 := b.data.toList
theorem bl_app (a b : ByteArray) : bl (a ++ b) = bl a ++ bl b := by simp [bl, ByteArray.data_append]
theorem bl_nil : bl .empty = [] := rfl
theorem bl_mk (l : List UInt8) : bl ⟨l.toArray⟩ = l := by simp [bl]
theorem bl_len (b : ByteArray) : (bl b).length = b.size := by simp [bl]
theorem bl_inj {a b : ByteArray} (h : bl a = bl b) : a = b := ByteArray.ext (Array.toList_inj.1 h)
theorem bl_get (b : ByteArray) (i : Nat) (h : i < b.size) : (bl b)[i]'(by rw [bl_len]; exact h) = b[i] := by simp [bl]; rfl
def nameCh (c : UInt8) : Bool := (decide (97 ≤ c.toNat) && decide (c.toNat ≤ 122)) || (decide (48 ≤ c.toNat) && decide (c.toNat ≤ 57))
theorem nameCh_at {s : ByteArray} {k : Nat} {h : k < s.size} (ha : NameAt s k h) : nameCh s[k] = true := by
  unfold NameAt at ha
  simp only [nameCh, Bool.or_eq_true, Bool.and_eq_true, decide_eq_true_eq]
  omega
theorem nameOk_chars {s : ByteArray} (h : NameOk s) : (bl s).all nameCh = true := by
  rw [List.all_eq_true]
  intro x hx
  obtain ⟨i, hi, rfl⟩ := List.getElem_of_mem hx
  rw [bl_len] at hi
  rw [bl_get s i hi]
  exact nameCh_at (h.2.2 i hi)
theorem nameOk_head {s : ByteArray} (h : NameOk s) : ∃ c r, bl s = c :: r ∧ nameCh c = true := by
  have hc := nameOk_chars h
  have hl := bl_len s
  have h1 := h.1
  match hb : bl s with
  | [] => rw [hb] at hl; simp at hl; omega
  | c :: r => rw [hb] at hc; simp at hc; exact ⟨c, r, rfl, hc.1⟩
theorem nameCh_not {c d : UInt8} (h : nameCh c = true) (hd : nameCh d = false) : c ≠ d := fun e => by subst e; rw [h] at hd; cases hd

/-- a text that comes next is taken -/
def Eaten (u l : List UInt8) (ok : Bool) (l' : List UInt8) : Prop := (ok = true ∧ l = u ++ l') ∨ (ok = false ∧ l' = l ∧ ∀ r, l ≠ u ++ r)
theorem Eaten.yes {u l l' r : List UInt8} {ok : Bool} (h : Eaten u l ok l') (e : l = u ++ r) : ok = true ∧ l' = r := by
  rcases h with ⟨rfl, h⟩ | ⟨_, _, h⟩
  · exact ⟨rfl, List.append_cancel_left (h.symm.trans e)⟩
  · exact absurd e (h r)
theorem Eaten.le {u l l' : List UInt8} {ok : Bool} (h : Eaten u l ok l') : l'.length ≤ l.length := by
  rcases h with ⟨_, h⟩ | ⟨_, h, _⟩
  · rw [h, List.length_append]; omega
  · rw [h]; exact Nat.le_refl _
theorem Eaten.lt {u l l' : List UInt8} (h : Eaten u l true l') : l'.length + u.length = l.length := by
  rcases h with ⟨_, h⟩ | ⟨h, _⟩
  · rw [h, List.length_append]; omega
  · cases h
theorem Eaten.no {u l l' : List UInt8} (h : Eaten u l false l') : l' = l ∧ ∀ r, l ≠ u ++ r := by
  rcases h with ⟨h, _⟩ | ⟨_, h⟩
  · cases h
  · exact h
/-- a name is taken, and what follows it stays -/
def Named (l : List UInt8) (x : ByteArray) (l' : List UInt8) : Prop := l = bl x ++ l' ∧ ∀ n r, NameOk n → l = bl n ++ 58 :: r → x = n ∧ l' = 58 :: r
end Go.Proofs.YtnaecdoeldoipaaGreatDoor
set_option linter.unusedVariables false
set_option linter.unusedSimpArgs false
namespace Go.Proofs.YtnaecdoeldoipaaGreatDoor
open Go.ChangeShapes Go.WideShapes Go.ChangeAt Go.RowKit

structure Event where
  type_ : ByteArray
  version : Int
  body : Tree
def Event.cells (x : Event) : List D := [.v (.string x.type_), .v (.int .i64 x.version), .v (.int .i64 x.body.sort), .v (.int .i64 x.body.num), .v (.string x.body.text), .s 1 x.body.names.length (x.body.names.flatMap strC), .s 5 x.body.kids.length (x.body.kids.flatMap Tree.cells)]
theorem Event.cells_eq (x : Event) : x.cells = [.v (.string x.type_), .v (.int .i64 x.version), .v (.int .i64 x.body.sort), .v (.int .i64 x.body.num), .v (.string x.body.text), .s 1 x.body.names.length (x.body.names.flatMap strC), .s 5 x.body.kids.length (x.body.kids.flatMap Tree.cells)] := rfl
def Event.bulk (x : Event) : Nat := x.type_.size + x.body.bulk
theorem Event.bulk_eq (x : Event) : x.bulk = x.type_.size + x.body.bulk := rfl
def Event.bulkS : List Event → Nat
  | [] => 0
  | x :: r => x.bulk + Event.bulkS r
theorem Event.cells_len (x : Event) : x.cells.length = 7 := by rw [Event.cells_eq]; rfl
def Event.bulkL (l : List Event) : Nat := l.length + Event.bulkS l
theorem Event.bulkS_append (a b : List Event) : Event.bulkS (a ++ b) = Event.bulkS a + Event.bulkS b := by
  induction a with
  | nil => simp [Event.bulkS]
  | cons x a ih => simp [Event.bulkS, ih]; omega
theorem Event.bulkS_snoc (l : List Event) (k : Nat) (h : k < l.length) : Event.bulkS (l.take (k + 1)) = Event.bulkS (l.take k) + l[k].bulk := by
  rw [List.take_succ_eq_append_getElem h, Event.bulkS_append]
  simp [Event.bulkS]
theorem Event.bulkS_le (l : List Event) (k : Nat) : Event.bulkS (l.take k) ≤ Event.bulkS l := by
  conv => rhs; rw [← List.take_append_drop k l, Event.bulkS_append]
  omega
theorem Event.bulk_at (l : List Event) (k : Nat) (h : k < l.length) : l[k].bulk ≤ Event.bulkS l := by
  have h1 := Event.bulkS_snoc l k h
  have h2 := Event.bulkS_le l (k + 1)
  omega
end Go.Proofs.YtnaecdoeldoipaaGreatDoor
set_option linter.unusedVariables false
set_option linter.unusedSimpArgs false
namespace Go.Proofs.YtnaecdoeldoipaaGreatDoor
open Go.ChangeShapes Go.WideShapes Go.ChangeAt Go.RowKit



end Go.Proofs.YtnaecdoeldoipaaGreatDoor
set_option linter.unusedVariables false
set_option linter.unusedSimpArgs false
namespace Go.Proofs.YtnaecdoeldoipaaGreatDoor
open Go.ChangeShapes Go.WideShapes Go.ChangeAt Go.RowKit

def Event.ok (x : Event) : Prop := NameOk x.type_ ∧ (1 ≤ x.version ∧ x.version ≤ 12) ∧ x.body.sort = 5 ∧ x.body.ok
end Go.Proofs.YtnaecdoeldoipaaGreatDoor
set_option linter.unusedVariables false
set_option linter.unusedSimpArgs false
namespace Go.Proofs.YtnaecdoeldoipaaGreatDoor
open Go.ChangeShapes Go.WideShapes Go.ChangeAt Go.RowKit

/-- the schema of a kid -/
def Kind.pick (k : Kind) (i : Nat) : Kind := (k.kids[if k.sort = 5 then i else 0]?).getD k
mutual
def Tree.of : Tree → Kind → Prop
  | .mk s _ _ ns ts, k => k.sort = s ∧ k.names = ns ∧ Tree.ofS ts k.pick 0
def Tree.ofS : List Tree → (Nat → Kind) → Nat → Prop
  | [], _, _ => True
  | t :: r, f, i => t.of (f i) ∧ Tree.ofS r f (i + 1)
end
theorem Tree.ofS_iff : ∀ (l : List Tree) (f : Nat → Kind) (i : Nat), Tree.ofS l f i ↔ ∀ j (h : j < l.length), l[j].of (f (i + j))
  | [], f, i => by simp [Tree.ofS]
  | t :: r, f, i => by
    simp only [Tree.ofS, Tree.ofS_iff r f (i + 1)]
    constructor
    · rintro ⟨h1, h2⟩ j hj
      cases j with
      | zero => simpa using h1
      | succ j =>
        have := h2 j (by simpa using hj)
        simpa [Nat.add_assoc, Nat.add_comm 1 j] using this
    · intro h
      refine ⟨h 0 (by simp), fun j hj => ?_⟩
      have := h (j + 1) (by simpa using hj)
      simpa [Nat.add_assoc, Nat.add_comm 1 j] using this
theorem Tree.of_iff (t : Tree) (k : Kind) : t.of k ↔ k.sort = t.sort ∧ k.names = t.names ∧ ∀ j (h : j < t.kids.length), t.kids[j].of (k.pick j) := by
  cases t with
  | mk s n x ns ts => simp only [Tree.of, Tree.ofS_iff, Nat.zero_add]; rfl

/-- the place of a kid's schema -/
theorem Kind.pick_at {k : Kind} {lv : Nat} (hg : k.good lv) {t : Tree} (ht : t.shape) (hs : k.sort = t.sort) (hn : k.names.length = t.names.length) {j : Nat} (hj : j < t.kids.length) :
    0 < k.kids.length ∧ ∃ h : (if k.sort = 5 then j else 0) < k.kids.length, k.pick j = k.kids[if k.sort = 5 then j else 0] := by
  have h1 := ((Kind.good_iff _ _).1 hg).2.1
  have h2 : (if k.sort = 5 then j else 0) < k.kids.length := by
    unfold Tree.shape at ht
    rcases k.shape_iff.1 h1 with h | h | h
    · omega
    · rw [if_neg (by omega)]; omega
    · rw [if_pos h.1]; omega
  refine ⟨by omega, h2, ?_⟩
  unfold Kind.pick
  rw [List.getElem?_eq_getElem h2]
  rfl
end Go.Proofs.YtnaecdoeldoipaaGreatDoor
set_option linter.unusedVariables false
set_option linter.unusedSimpArgs false
namespace Go.Proofs.YtnaecdoeldoipaaGreatDoor
open Go.ChangeShapes Go.WideShapes Go.ChangeAt Go.RowKit

def HasTree (t : Tree) : Prop := ∀ (k : Kind) (us vs : List Value) (fp fq : List Nat) (lv lw : Nat) (w : World), OwC w k.cells us fp → OwC w t.cells vs fq → Lt fp w.heap.size → Lt fq w.heap.size → k.bulk ≤ 1048576 → t.bulk ≤ 1048576 → k.good lv → t.good lw →
  Calls Tryz.prog 59 #[.agg us.toArray, .agg vs.toArray] w fun e w' => e = .returned (.bool (tb (t.of k))) ∧ Below w.heap.size w w'

theorem Tree.kid_bulk {k : Tree} {i : Nat} (h : i < k.kids.length) : k.kids[i].bulk ≤ k.bulk := by
  have h1 := Tree.bulkS_snoc k.kids i h
  have h2 := Tree.bulkS_le k.kids (i + 1)
  have h3 := k.bulk_eq
  omega
theorem Tree.kid_good {k : Tree} {lv i : Nat} (hg : k.good lv) (h : i < k.kids.length) : k.kids[i].good (lv + 1) := Tree.goodS_at ((Tree.good_iff _ _).1 hg).2.2 h

theorem names_ext {a b : List ByteArray} (hl : a.length = b.length) (h : ∀ i (h1 : i < a.length) (h2 : i < b.length), a[i] = b[i]) : a = b := List.ext_getElem hl h

set_option maxRecDepth 100000 in
set_option maxHeartbeats 1000000 in
theorem hasTree_of (t : Tree) (ih : ∀ x ∈ t.kids, HasTree x) : HasTree t := by
  intro k us vs fp fq lv lw w hk ht hf hg hbk hbt hgk hgt
  obtain ⟨A1, c1, A2, c2, f1, f2, rfl, w0, o1, o2, rfl⟩ := hk.oKind
  obtain ⟨B1, d1, B2, d2, q1, q2, rfl, v0, v1, v2, x1, x2, rfl⟩ := ht.oTree
  have hw1 : Below w.heap.size w ((w.alloc (.cells #[.int .i64 k.sort, .slice A1 k.names.length c1, .slice A2 k.kids.length c2] 38)).alloc (.cells #[.int .i64 t.sort, .int .i64 t.num, .string t.text, .slice B1 t.names.length d1, .slice B2 t.kids.length d2] 26)) := ((Below.refl w.heap.size w).alloc (Nat.le_refl _) _).alloc (by simp) _
  have RK : Row ((w.alloc (.cells #[.int .i64 k.sort, .slice A1 k.names.length c1, .slice A2 k.kids.length c2] 38)).alloc (.cells #[.int .i64 t.sort, .int .i64 t.num, .string t.text, .slice B1 t.names.length d1, .slice B2 t.kids.length d2] 26)) w.heap.size 38 [.int .i64 k.sort, .slice A1 k.names.length c1, .slice A2 k.kids.length c2] := (Row.new w _ _).alloc _
  have RT : Row ((w.alloc (.cells #[.int .i64 k.sort, .slice A1 k.names.length c1, .slice A2 k.kids.length c2] 38)).alloc (.cells #[.int .i64 t.sort, .int .i64 t.num, .string t.text, .slice B1 t.names.length d1, .slice B2 t.kids.length d2] 26)) (w.heap.size + 1) 26 [.int .i64 t.sort, .int .i64 t.num, .string t.text, .slice B1 t.names.length d1, .slice B2 t.kids.length d2] := by
    have h := Row.new (w.alloc (.cells #[.int .i64 k.sort, .slice A1 k.names.length c1, .slice A2 k.kids.length c2] 38)) 26 [.int .i64 t.sort, .int .i64 t.num, .string t.text, .slice B1 t.names.length d1, .slice B2 t.kids.length d2]
    rw [World.size_alloc] at h
    exact h
  have hof := hide (t.of_iff k)
  have hkb := k.bulk_eq; unfold bulkStrs at hkb
  have htb := t.bulk_eq; unfold bulkStrs at htb
  have hB1 := hide hw1
  have O1 := hide o1
  have O2 := hide o2
  have X1 := hide x1
  have X2 := hide x2
  have HI := hide ih
  have HGK := hide hgk
  have HGT := hide hgt
  clear hk ht o1 o2 x1 x2 hw1 ih hgk hgt
  by_cases hs : k.sort = t.sort
  · by_cases hn : k.names.length = t.names.length
    · have hb0 : (k.sort != t.sort) = false := by simp [hs]
      have hb1 : ((k.names.length : Int) != (t.names.length : Int)) = false := by simp [hn]
      have HS := hide hs
      have HN := hide hn
      clear hs hn
      go_enter Tryz.func59, Tryz.ntmps59
      go_wp2
      go_loopw [5] (fun i wr => (∃ j : Nat, j ≤ k.names.length ∧ i = .int .i64 j ∧ ∀ a (h1 : a < k.names.length) (h2 : a < t.names.length), a < j → k.names[a] = t.names[a]) ∧ ∃ q, wr = ((w.alloc (.cells #[.int .i64 k.sort, .slice A1 k.names.length c1, .slice A2 k.kids.length c2] 38)).alloc (.cells #[.int .i64 t.sort, .int .i64 t.num, .string t.text, .slice B1 t.names.length d1, .slice B2 t.kids.length d2] 26)).drewN q) (fun i _ => k.names.length - (intOf i).toNat)
      case atStart => exact ⟨⟨0, Nat.zero_le _, rfl, fun a h1 h2 h => absurd h (by omega)⟩, 0, rfl⟩
      case round =>
        obtain ⟨⟨j, hj, rfl, ha⟩, q, rfl⟩ := hrel
        have HA := hide ha
        clear ha
        by_cases hlt : j < k.names.length
        · have hlt2 : j < t.names.length := by have := HN.out; omega
          obtain ⟨g, off, rfl, hgm, hcell, hs1⟩ := strs_at (O1.out.below hB1.out hf.left) hlt
          obtain ⟨g', off', rfl, hgm', hcell', hs2⟩ := strs_at (X1.out.below hB1.out hg.left) hlt2
          by_cases he : k.names[j] = t.names[j]
          · have HE := hide he
            rw [← he] at hcell'
            clear he
            go_wp2
            go_quiet (fail)
            go_wp2
            go_roundw
            case rel =>
              refine ⟨⟨j + 1, by omega, by go_num, fun a h1 h2 h => ?_⟩, _, rfl⟩
              by_cases e : a < j
              · exact HA.out a h1 h2 e
              · obtain rfl : a = j := by omega
                exact HE.out
            case measure => simp [intOf]; omega
          · have HT := hide (tb_false (p := t.of k) (fun h => he (by have := (hof.out.1 h).2.1; simp only [this])))
            have HE := txt_no he
            clear he
            go_wp2
            go_quiet (fail)
            go_wp2
            go_ret
            exact ⟨ret_bool HT.out.symm, hB1.out.trans ⟨rfl, rfl, rfl, Nat.le_refl _, fun _ _ => rfl⟩⟩
        · obtain rfl : j = k.names.length := by omega
          have HE := hide (names_ext HN.out (fun a h1 h2 => HA.out a h1 h2 h1))
          have RKq := RK.drewN q
          have RTq := RT.drewN q
          clear RK RT
          go_wp2
          go_loopw [6] (fun i wr => (∃ j : Nat, j ≤ t.kids.length ∧ i = .int .i64 j ∧ ∀ a (h : a < t.kids.length), a < j → t.kids[a].of (k.pick a)) ∧ Below w.heap.size w wr ∧ Row wr w.heap.size 38 [.int .i64 k.sort, .slice A1 k.names.length c1, .slice A2 k.kids.length c2] ∧ Row wr (w.heap.size + 1) 26 [.int .i64 t.sort, .int .i64 t.num, .string t.text, .slice B1 t.names.length d1, .slice B2 t.kids.length d2]) (fun i _ => t.kids.length - (intOf i).toNat)
          case atStart => exact ⟨⟨0, Nat.zero_le _, rfl, fun a h1 h => absurd h (by omega)⟩, below_drewN hB1.out _, RKq, RTq⟩
          case round =>
            obtain ⟨⟨j, hj, rfl, ha⟩, hbw, RKw, RTw⟩ := hrel
            have HA2 := hide ha
            have HB := hide hbw
            have lk := RKw.lt
            have lt := RTw.lt
            have k0 := RKw.cell 0
            have k2 := RKw.cell 2
            have t4 := RTw.cell 4
            clear ha hbw
            by_cases hlt : j < t.kids.length
            · obtain ⟨hpos, hpl, hpick⟩ := Kind.pick_at HGK.out ((Tree.good_iff _ _).1 HGT.out).2.1 HS.out HN.out hlt
              obtain ⟨g, off, ws, fi, rfl, hgm, hfi, hwl, hcs, hov⟩ := (X2.out.below HB.out hg.right).elem Tree.cells_len hlt
              obtain ⟨g', off', ws', fi', rfl, hgm', hfi', hwl', hcs', hov'⟩ := (O2.out.below HB.out hf.right).elem Kind.cells_len hpos
              have HOT := hide hov
              have HFT := hide (((hg.right).up HB.out).sub hfi)
              have hgl := hg.right _ hgm
              have hgl' := hf.right _ hgm'
              have hgw := Nat.lt_of_lt_of_le hgl HB.out.size
              have hgw' := Nat.lt_of_lt_of_le hgl' HB.out.size
              have HC := hide (HI.out _ (List.getElem_mem hlt))
              have HTG := hide (Tree.kid_good HGT.out hlt)
              have htb1 := Nat.le_trans (Tree.kid_bulk hlt) hbt
              obtain ⟨D1, e1, D2, e2, r1, r2, rfl, y0, y1, y2, z1, z2, rfl⟩ := hov.oTree
              have p0 := hcs 0 _ rfl
              have p1 := hcs 1 _ rfl
              have p2 := hcs 2 _ rfl
              have p3 := hcs 3 _ rfl
              have p4 := hcs 4 _ rfl
              simp only [Nat.add_zero] at p0
              have hnext := hide (fun (h : t.kids[j].of (k.pick j)) (a : Nat) (ha : a < t.kids.length) (hl : a < j + 1) => show t.kids[a].of (k.pick a) from by
                by_cases e : a < j
                · exact HA2.out a ha e
                · obtain rfl : a = j := by omega
                  exact h)
              have hbad := hide (fun (h : ¬ t.kids[j].of (k.pick j)) => tb_false (p := t.of k) (fun ht => h ((hof.out.1 ht).2.2 j hlt)))
              clear hcs hov z1 z2 hfi
              by_cases h5 : k.sort = 5
              · have b5 : (k.sort == 5) = true := by simp [h5]
                have hpl2 : j < k.kids.length := by simpa [h5] using hpl
                have hpick2 : k.pick j = k.kids[j]'hpl2 := by rw [hpick]; simp [h5]
                clear hpick hpl h5
                have hpl := hpl2
                obtain ⟨_, _, ws2, fi2, e3, _, hfi2, hwl2, hcs2, hov2⟩ := (O2.out.below HB.out hf.right).elem Kind.cells_len hpl
                injection e3 with e3
                injection e3 with e3 e4
                subst e3 e4
                have HOK := hide hov2
                have HFK := hide (((hf.right).up HB.out).sub hfi2)
                have HKG := hide (Kind.kid_good HGK.out hpl)
                have hkb1 := Nat.le_trans (Kind.kid_bulk hpl) hbk
                obtain ⟨C1, m1, C2, m2, s1, s2, rfl, n0, l1, l2, rfl⟩ := hov'.oKind
                obtain ⟨E1, n1, E2, n2, s3, s4, rfl, n3, l3, l4, rfl⟩ := hov2.oKind
                have i0 := hcs' 0 _ rfl
                have i1 := hcs' 1 _ rfl
                have i2 := hcs' 2 _ rfl
                simp only [Nat.zero_mul, Nat.add_zero] at i0 i1 i2
                have j0 := hcs2 0 _ rfl
                have j1 := hcs2 1 _ rfl
                have j2 := hcs2 2 _ rfl
                simp only [Nat.add_zero] at j0
                clear hcs' hcs2 hov' hov2 l1 l2 l3 l4
                rw [hpick2] at hnext hbad
                clear hpick2
                generalize t.kids[j] = x at *
                generalize k.kids[j] = y at *
                generalize k.kids[0] = y0 at *
                go_wp2_with fail
                obtain ⟨W2, hW2⟩ : ∃ W2, wr.alloc (.cells #[.int .i64 y.sort, .slice E1 y.names.length n1, .slice E2 y.kids.length n2] 38) = W2 := ⟨_, rfl⟩
                have hb1 : Below wr.heap.size wr W2 := hW2 ▸ (Below.refl _ _).alloc (Nat.le_refl _) _
                have RX : Row W2 wr.heap.size 38 [.int .i64 y.sort, .slice E1 y.names.length n1, .slice E2 y.kids.length n2] := hW2 ▸ Row.new wr _ _
                have RT2 := RTw.below hb1 lt
                have x0 := RX.cell 0
                have x1 := RX.cell 1
                have x2 := RX.cell 2
                have tt4 := RT2.cell 4
                have pp0 := (hb1.cell (p := ⟨g, off + j * 5, none⟩) hgw).trans p0
                have pp1 := (hb1.cell (p := ⟨g, off + j * 5 + 1, none⟩) hgw).trans p1
                have pp2 := (hb1.cell (p := ⟨g, off + j * 5 + 2, none⟩) hgw).trans p2
                have pp3 := (hb1.cell (p := ⟨g, off + j * 5 + 3, none⟩) hgw).trans p3
                have pp4 := (hb1.cell (p := ⟨g, off + j * 5 + 4, none⟩) hgw).trans p4
                rw [hW2]
                go_still_tail 6, (by kernel_rfl)
                change wpList _ _ _ _ _ W2.drew
                clear x0 x1 x2 tt4 pp0 pp1 pp2 pp3 pp4 RX RT2
                go_wp2_with fail
                have hb2 : Below wr.heap.size wr W2.drew := hb1.drew
                clear hW2 hb1
                refine (HC.out y _ _ _ _ (lv + 1) (lw + 1) _ (HOK.out.below hb2 HFK.out) (HOT.out.below hb2 HFT.out) (HFK.out.mono hb2.size) (HFT.out.mono hb2.size) hkb1 htb1 HKG.out HTG.out).mono ?_
                rintro e w3 ⟨rfl, hb3⟩
                have hb4 := hb2.trans (hb3.mono hb2.size)
                have hbz := hide (HB.out.trans (hb4.mono HB.out.size))
                have RK3 := RKw.below hb4 lk
                have RT3 := RTw.below hb4 lt
                by_cases hx : x.of y
                · rw [tb_true hx]
                  have HX := hide (hnext.out hx)
                  clear hx
                  go_wp2
                  go_roundw
                  case rel => exact ⟨⟨j + 1, by omega, by go_num, HX.out⟩, hbz.out, RK3, RT3⟩
                  case measure => simp [intOf]; omega
                · rw [tb_false hx]
                  have HX := hide (hbad.out hx)
                  clear hx
                  go_wp2
                  go_ret
                  exact ⟨ret_bool HX.out.symm, hbz.out⟩
              · have b5 : (k.sort == 5) = false := by simp [h5]
                have hpick2 : k.pick j = k.kids[0]'hpos := by rw [hpick]; simp [h5]
                clear hpick hpl h5
                skip
                have HOK := hide hov'
                have HFK := hide (((hf.right).up HB.out).sub hfi')
                have HKG := hide (Kind.kid_good HGK.out hpos)
                have hkb1 := Nat.le_trans (Kind.kid_bulk hpos) hbk
                obtain ⟨C1, m1, C2, m2, s1, s2, rfl, n0, l1, l2, rfl⟩ := hov'.oKind
                have i0 := hcs' 0 _ rfl
                have i1 := hcs' 1 _ rfl
                have i2 := hcs' 2 _ rfl
                simp only [Nat.zero_mul, Nat.add_zero] at i0 i1 i2
                clear hcs' hov' l1 l2
                rw [hpick2] at hnext hbad
                clear hpick2
                generalize t.kids[j] = x at *
                generalize k.kids[0] = y at *
                go_wp2_with fail
                obtain ⟨W2, hW2⟩ : ∃ W2, wr.alloc (.cells #[.int .i64 y.sort, .slice C1 y.names.length m1, .slice C2 y.kids.length m2] 38) = W2 := ⟨_, rfl⟩
                have hb1 : Below wr.heap.size wr W2 := hW2 ▸ (Below.refl _ _).alloc (Nat.le_refl _) _
                have RX : Row W2 wr.heap.size 38 [.int .i64 y.sort, .slice C1 y.names.length m1, .slice C2 y.kids.length m2] := hW2 ▸ Row.new wr _ _
                have RT2 := RTw.below hb1 lt
                have x0 := RX.cell 0
                have x1 := RX.cell 1
                have x2 := RX.cell 2
                have tt4 := RT2.cell 4
                have pp0 := (hb1.cell (p := ⟨g, off + j * 5, none⟩) hgw).trans p0
                have pp1 := (hb1.cell (p := ⟨g, off + j * 5 + 1, none⟩) hgw).trans p1
                have pp2 := (hb1.cell (p := ⟨g, off + j * 5 + 2, none⟩) hgw).trans p2
                have pp3 := (hb1.cell (p := ⟨g, off + j * 5 + 3, none⟩) hgw).trans p3
                have pp4 := (hb1.cell (p := ⟨g, off + j * 5 + 4, none⟩) hgw).trans p4
                rw [hW2]
                go_still_tail 6, (by kernel_rfl)
                change wpList _ _ _ _ _ W2.drew
                clear x0 x1 x2 tt4 pp0 pp1 pp2 pp3 pp4 RX RT2
                go_wp2_with fail
                have hb2 : Below wr.heap.size wr W2.drew := hb1.drew
                clear hW2 hb1
                refine (HC.out y _ _ _ _ (lv + 1) (lw + 1) _ (HOK.out.below hb2 HFK.out) (HOT.out.below hb2 HFT.out) (HFK.out.mono hb2.size) (HFT.out.mono hb2.size) hkb1 htb1 HKG.out HTG.out).mono ?_
                rintro e w3 ⟨rfl, hb3⟩
                have hb4 := hb2.trans (hb3.mono hb2.size)
                have hbz := hide (HB.out.trans (hb4.mono HB.out.size))
                have RK3 := RKw.below hb4 lk
                have RT3 := RTw.below hb4 lt
                by_cases hx : x.of y
                · rw [tb_true hx]
                  have HX := hide (hnext.out hx)
                  clear hx
                  go_wp2
                  go_roundw
                  case rel => exact ⟨⟨j + 1, by omega, by go_num, HX.out⟩, hbz.out, RK3, RT3⟩
                  case measure => simp [intOf]; omega
                · rw [tb_false hx]
                  have HX := hide (hbad.out hx)
                  clear hx
                  go_wp2
                  go_ret
                  exact ⟨ret_bool HX.out.symm, hbz.out⟩
            · obtain rfl : j = t.kids.length := by omega
              have HT := hide (tb_true (p := t.of k) (hof.out.2 ⟨HS.out, HE.out, fun a h => HA2.out a h h⟩))
              go_wp2
              go_ret
              exact ⟨ret_bool HT.out.symm, HB.out⟩
    · have hb0 : (k.sort != t.sort) = false := by simp [hs]
      have hb1 : ((k.names.length : Int) != (t.names.length : Int)) = true := by simp; omega
      have HT := hide (tb_false (p := t.of k) (fun h => hn (by rw [(hof.out.1 h).2.1])))
      clear hs hn
      go_enter Tryz.func59, Tryz.ntmps59
      go_wp2
      go_ret
      exact ⟨ret_bool HT.out.symm, hB1.out⟩
  · have hb0 : (k.sort != t.sort) = true := by simp [hs]
    have HT := hide (tb_false (p := t.of k) (fun h => hs (hof.out.1 h).1))
    clear hs
    go_enter Tryz.func59, Tryz.ntmps59
    go_wp2
    go_ret
    exact ⟨ret_bool HT.out.symm, hB1.out⟩
theorem hasTree_any (t : Tree) : HasTree t := Tree.ind hasTree_of t
end Go.Proofs.YtnaecdoeldoipaaGreatDoor
set_option linter.unusedVariables false
set_option linter.unusedSimpArgs false
namespace Go.Proofs.YtnaecdoeldoipaaGreatDoor
open Go.ChangeShapes Go.WideShapes Go.ChangeAt Go.RowKit Go.Deep

section
variable {H : Type} {enc : TypeId × Value → H} {P : Program} {w : World} {base : Nat} {spare : Nat → Bool} {held : Bool}

theorem rows_of {α : Type} (f : α → List D) (k : Nat) (hk : ∀ x, (f x).length = k) (g : Nat) (A : Nat → α) (F : Nat → List Nat) : ∀ (n off : Nat),
    (∀ i, i < n → OwL w (f (A i)) g (off + i * k) (F i)) → OwL w (((List.range n).map A).flatMap f) g off ((List.range n).flatMap F)
  | 0, off, _ => by simp [OwL]
  | n + 1, off, h => by
    rw [List.range_succ, List.map_append, List.flatMap_append, List.flatMap_append]
    refine (OwL.append _ _ _ _ _).2 ⟨_, _, rows_of f k hk g A F n off (fun i hi => h i (by omega)), ?_, rfl⟩
    rw [flat_len f k hk]
    have := h n (by omega)
    simpa using this

theorem Addr.flat {a : Addr} (h : a.spot = none) : a = ⟨a.block, a.off, none⟩ := by
  cases a; simp_all
theorem Addr.add_flat (b o j : Nat) : (⟨b, o, none⟩ : Addr).add j = ⟨b, o + j, none⟩ := by unfold Addr.add; split <;> simp_all

/-- A SLICE THAT CAME IN reads as a list, where its elements do. -/
theorem slice_read {α : Type} [Inhabited α] (f : α → List D) (k : Nat) (hk : ∀ x, (f x).length = k) (hk0 : 0 < k) {t e : TypeId} (ht : P.underlying t = some (.slice e)) (hc : P.cellsOf e = k) {fuel : Nat} {cs : List Value} {x : DataW H × List MemPlace}
    (elem : ∀ n, n < fuel → ∀ cs x, DataW.trod enc P w base spare held n e cs = some x → ∃ a fp, OwC w (f a) cs fp ∧ Lt fp w.heap.size)
    (h : DataW.trod enc P w base spare held fuel t cs = some x) :
    ∃ (l : List α) (v : Value) (fp : List Nat), cs = [v] ∧ Ow w (.s k l.length (l.flatMap f)) v fp ∧ Lt fp w.heap.size := by
  rcases DataW.trod_slice ht h with ⟨rfl, _⟩ | ⟨a, len, cap, elems, rest, n, rfl, rfl, _, hb, hl, hm, hlen, hel, _, _⟩
  · refine ⟨[], _, [], rfl, ?_, Lt.nil _⟩
    unfold Ow
    exact ⟨by simp, _, _, rfl, Nat.le_refl _, by unfold maxLen; omega, .inl ⟨rfl, rfl⟩⟩
  · have key : ∀ i, i < len → ∃ y : α × List Nat, OwL w (f y.1) a.block (a.off + i * k) y.2 ∧ Lt y.2 w.heap.size ∧ a.spot = none ∧ a.block < w.heap.size := by
      intro i hi
      have h1 := hel i hi
      rw [List.getElem?_eq_getElem (by omega), hc] at h1
      obtain ⟨cs', h2, h3⟩ := Option.bind_eq_some_iff.1 h1
      obtain ⟨y, fp, ho, hlt⟩ := elem n (by omega) cs' _ h3
      obtain ⟨_, hcl, hat⟩ := World.cells?_some h2
      have h00 : ∃ u, w.cell? (a.add (i * k)) = some u := by
        have := hat 0 hk0
        rw [List.getElem?_eq_getElem (by omega)] at this
        exact ⟨_, by simpa [Addr.add] using this⟩
      obtain ⟨u, hu⟩ := h00
      have hlt0 := World.block_lt_of_cell? w _ hu
      have hspot : (a.add (i * k)).spot = none := World.cell?_spot hu
      -- the slice's own address
      have hel0 := hel 0 (by omega)
      rw [List.getElem?_eq_getElem (by omega), hc] at hel0
      obtain ⟨cs0, g2, _⟩ := Option.bind_eq_some_iff.1 hel0
      obtain ⟨_, hcl0, hat0⟩ := World.cells?_some g2
      have g3 := hat0 0 hk0
      rw [List.getElem?_eq_getElem (by omega)] at g3
      have g4 : w.cell? a = some (cs0[0]'(by omega)) := by simpa [Addr.add] using g3
      have hsp : a.spot = none := World.cell?_spot g4
      have hlta := World.block_lt_of_cell? w _ g4
      refine ⟨(y, fp), ?_, hlt, hsp, hlta⟩
      refine OwC.row _ ho (fun j v hj => ?_)
      have hj' : j < k := by
        have h5 := OwC.length _ ho
        have h6 : j < cs'.length := by
          rcases Nat.lt_or_ge j cs'.length with h7 | h7
          · exact h7
          · rw [List.getElem?_eq_none h7] at hj; cases hj
        omega
      have h8 := hat j hj'
      rw [hj, Addr.flat hsp, Addr.add_flat, Addr.add_flat] at h8
      exact h8
    obtain ⟨F, hF⟩ := choose_lt (α := α × List Nat) key
    refine ⟨(List.range len).map fun i => (F i).1, _, if len = 0 then [] else a.block :: (List.range len).flatMap fun i => (F i).2, rfl, ?_, ?_⟩
    · unfold Ow
      refine ⟨by rw [flat_len f k hk], some a, cap, by simp, by simpa using hl, hm, ?_⟩
      by_cases h0 : len = 0
      · exact .inl ⟨by simpa using h0, by simp [h0]⟩
      · rw [if_neg h0]
        refine .inr ⟨by simp; omega, a.block, a.off, _, ?_, rows_of f k hk a.block (fun i => (F i).1) (fun i => (F i).2) len a.off (fun i hi => (hF i hi).1), rfl⟩
        rw [← Addr.flat (hF 0 (by omega)).2.2.1]
    · by_cases h0 : len = 0
      · rw [if_pos h0]; exact Lt.nil _
      · rw [if_neg h0]
        intro g hg
        rcases List.mem_cons.1 hg with rfl | hg
        · exact (hF 0 (by omega)).2.2.2
        · obtain ⟨i, hi, hg⟩ := List.mem_flatMap.1 hg
          exact (hF i (by simpa using hi)).2.1 g hg

theorem int_read {k : IntKind} {t : TypeId} (ht : P.underlying t = some (.int k)) {fuel : Nat} {cs : List Value} {x : DataW H × List MemPlace} (h : DataW.trod enc P w base spare held fuel t cs = some x) :
    ∃ n, cs = [.int k n] ∧ Ow w (.v (.int k n)) (.int k n) [] := by
  obtain ⟨n, rfl, _, hw⟩ := DataW.trod_int ht h
  exact ⟨n, rfl, by unfold Ow; exact ⟨rfl, hw, rfl⟩⟩
theorem OwC.one {d : D} {v : Value} {fp : List Nat} (h : Ow w d v fp) : OwC w [d] [v] fp := ⟨fp, [], h, rfl, by simp⟩

end

theorem bytes_read {H : Type} {enc : TypeId × Value → H} {w : World} {base : Nat} {spare : Nat → Bool} {held : Bool} {fuel : Nat} {cs : List Value} {x : DataW H × List MemPlace} (h : DataW.trod enc Tryz.prog w base spare held fuel 22 cs = some x) :
    ∃ (l : List UInt8) (v : Value) (fp : List Nat), cs = [v] ∧ Ow w (.s 1 l.length (l.flatMap byteC)) v fp ∧ Lt fp w.heap.size :=
  slice_read byteC 1 byteC_len (by omega) Tryz.underlying22 (by kernel_rfl) (fun n _ cs x hx => by
    obtain ⟨s, rfl, ho⟩ := int_read Tryz.underlying5 hx
    have hw := ho
    unfold Ow at hw
    have hb : 0 ≤ s ∧ s ≤ 255 := by simpa [okAtom, Lit.wf, IntKind.min, IntKind.max, IntKind.signed, IntKind.bits] using hw.2.1
    refine ⟨UInt8.ofNat s.toNat, [], ?_, Lt.nil _⟩
    have e : ((UInt8.ofNat s.toNat).toNat : Int) = s := by rw [UInt8.toNat_ofNat']; omega
    unfold byteC
    rw [e]
    exact OwC.one ho) h
end Go.Proofs.YtnaecdoeldoipaaGreatDoor
