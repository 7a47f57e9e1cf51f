/-
  A struct in a block of its own with two slices that the call itself grows. Disks: the reference's lists of names (l41Without, l41After, l41Made), l6Has, l41Find. Disks: the reference's l6Has, l41Find, l41Made.
-/
import Derived.Laws.ResultCell
import Derived.Test.YtddjgbhkfdpffaaGreatDoorWU8
import Derived.Test.YtddjgbhkfdpffaaGreatDoorWHLogState
import Derived.Test.YtddjgbhkfdpffaaGreatDoorWApp
set_option linter.unusedVariables false
set_option linter.unusedSimpArgs false
namespace Go.Proofs.YtddjgbhkfdpffaaGreatDoor
open Go.ChangeShapes Go.WideShapes Go.ChangeAt Go.RowKit

theorem OwC.plain {w : World} : ∀ (l : List D) {us : List Value} {fp : List Nat}, (∀ d ∈ l, ∃ x, d = .v x) → OwC w l us fp → fp = []
  | [], us, fp, _, h => by
    cases us with
    | nil => exact h
    | cons _ _ => exact h.elim
  | d :: r, us, fp, hd, h => by
    cases us with
    | nil => exact h.elim
    | cons y us =>
      obtain ⟨f1, f2, h1, h2, rfl⟩ := h
      obtain ⟨x, rfl⟩ := hd d (by simp)
      unfold Ow at h1
      rw [h1.2.2, OwC.plain r (fun d hd' => hd d (by simp [hd'])) h2]
      rfl
theorem strs_plain (l : List ByteArray) : ∀ d ∈ l.flatMap strC, ∃ x, d = .v x := fun d hd => by
  obtain ⟨x, _, hx⟩ := List.mem_flatMap.1 hd
  simp only [strC, List.mem_singleton] at hx
  exact ⟨_, hx⟩
theorem Ow.srcStrs {w : World} {l : List ByteArray} {A : Option Addr} {n c : Nat} {fp : List Nat} (h : Ow w (.s 1 l.length (l.flatMap strC)) (.slice A n c) fp) : ∃ us, OwC w (l.flatMap strC) us [] ∧ SrcAt w us A n c := by
  obtain ⟨us, f2, h1, h2, _⟩ := h.srcAt
  obtain rfl := OwC.plain _ (strs_plain l) h1
  exact ⟨us, h1, h2⟩

/-- a result that lies in a block of its own -/
theorem ret_row {P : Program} {fn : Func} {p : Tmp} {ty : TypeId} (h : fn.results = #[.cell p ty]) (tmps : Array Value) (w : World) (g : Nat) (t : TypeId) (cs : List Value) (hr : Row w g t cs) (d : TypeDesc)
    (hp : tmps.getD p undef = .pointer (some ⟨g, 0, none⟩)) (hu : P.underlying ty = some d) (hd : (match d with | .struct _ | .array _ _ => true | _ => false) = true) (hi : (P.info? ty).map (·.size) = some cs.length) :
    (results fn tmps).run P w = .ok (.agg cs.toArray) w := results_cell_row h tmps w g t cs.toArray (0, 0) d hp hr hu hd (by simpa using hi)
theorem ret_row_tmp {P : Program} {fn : Func} {p u : Tmp} {ty : TypeId} (h : fn.results = #[.cell p ty, .tmp u]) (tmps : Array Value) (w : World) (g : Nat) (t : TypeId) (cs : List Value) (hr : Row w g t cs) (d : TypeDesc) (v : Value)
    (hp : tmps.getD p undef = .pointer (some ⟨g, 0, none⟩)) (hv : tmps.getD u undef = v) (hu : P.underlying ty = some d) (hd : (match d with | .struct _ | .array _ _ => true | _ => false) = true) (hi : (P.info? ty).map (·.size) = some cs.length) :
    (results fn tmps).run P w = .ok (.tuple #[.agg cs.toArray, v]) w := by
  rw [results_cell_tmp h, hp, hv]
  simp [asAddr, run_loadVar_row w g t ty cs.toArray (0, 0) d hr hu hd (by simpa using hi), Result.andThen]
theorem kc {B : Nat} {W w' : World} {p : Addr} {v : Value} (h : W.cell? p = some v) (hb : Below B W w') (hl : p.block < B) : w'.cell? p = some v := (hb.cell hl).trans h
theorem Ow.nil_ {α : Type} (w : World) (k : Nat) (f : α → List D) : Ow w (.s k ([] : List α).length (([] : List α).flatMap f)) (.slice none 0 0) [] := by
  unfold Ow
  exact ⟨by simp, none, 0, rfl, Nat.le_refl _, by simp [maxLen], .inl ⟨rfl, rfl⟩⟩
theorem grown_refl (w : World) (r : Option Nat) : w.grownBy w r := ⟨rfl, rfl, rfl, Nat.le_refl _, fun _ _ _ => rfl⟩
theorem below_of_grown {w w' : World} {g B : Nat} (h : w.grownBy w' (some g)) (hB : B ≤ g) (hs : B ≤ w.heap.size) : Below B w w' :=
  ⟨h.os, h.tape, h.output, h.size, fun i hi => h.block i (by omega) (fun e => by injection e with e; omega)⟩

/-- the cells of a row, stored one behind the other -/
def putN (w : World) (g : Nat) : Nat → List Value → World
  | _, [] => w
  | i, v :: r => putN (w.setCell ⟨g, i, none⟩ v) g (i + 1) r
theorem Row.setN {g : Nat} {e : TypeId} : ∀ (vs pre cs : List Value) {w : World}, vs.length = cs.length → Row w g e (pre ++ cs) → Row (putN w g pre.length vs) g e (pre ++ vs)
  | [], pre, [], w, _, h => h
  | [], _, _ :: _, _, hl, _ => by simp at hl
  | _ :: _, _, [], _, hl, _ => by simp at hl
  | v :: vs, pre, c :: cs, w, hl, h => by
    have h1 := h.set pre.length v
    have e1 : (pre ++ c :: cs).set pre.length v = (pre ++ [v]) ++ cs := by simp
    rw [e1] at h1
    have h2 := Row.setN vs (pre ++ [v]) cs (by simpa using hl) h1
    simp only [List.length_append, List.length_cons, List.length_nil, List.append_assoc, List.cons_append, List.nil_append] at h2
    exact h2
theorem Row.setAll {w : World} {g : Nat} {e : TypeId} {cs : List Value} (h : Row w g e cs) (vs : List Value) (hl : vs.length = cs.length) : Row (putN w g 0 vs) g e vs := Row.setN vs [] cs hl h
theorem setN_grown {w0 : World} {g : Nat} : ∀ (vs : List Value) (i : Nat) {w : World}, w0.grownBy w (some g) → w0.grownBy (putN w g i vs) (some g)
  | [], _, _, h => h
  | v :: vs, i, w, h => setN_grown vs (i + 1) (only_setCell h (.inl rfl) v)

structure Two {α β : Type} (w : World) (b B : Nat) (T : TypeId) (mk : Value → Value → List Value) (e1 : TypeId) (k1 : Nat) (f1 : α → List D) (v1 : Value) (l1 : List α) (us1 : List Value) (fi1 : List Nat)
    (e2 : TypeId) (k2 : Nat) (f2 : β → List D) (v2 : Value) (l2 : List β) (us2 : List Value) (fi2 : List Nat) : Prop where
  box : Row w b T (mk v1 v2)
  one : OwS w B e1 k1 f1 v1 l1 us1 fi1
  two : OwS w B e2 k2 f2 v2 l2 us2 fi2
  hb : b < B
  dis : ∀ g, v1.ownBlock = some g → v2.ownBlock ≠ some g
  o12 : ∀ g, v1.ownBlock = some g → g ∉ fi2
  o21 : ∀ g, v2.ownBlock = some g → g ∉ fi1
  ff : ∀ g ∈ fi1, g ∉ fi2

section
variable {α β : Type} {w w1 : World} {b B : Nat} {T : TypeId} {mk : Value → Value → List Value} {e1 : TypeId} {k1 : Nat} {f1 : α → List D} {v1 v1' : Value} {l1 l1' : List α} {us1 us1' : List Value} {fi1 fi1' : List Nat}
    {e2 : TypeId} {k2 : Nat} {f2 : β → List D} {v2 v2' : Value} {l2 l2' : List β} {us2 us2' : List Value} {fi2 fi2' : List Nat}
theorem Two.below (h : Two w b B T mk e1 k1 f1 v1 l1 us1 fi1 e2 k2 f2 v2 l2 us2 fi2) (hb : Below w.heap.size w w1) : Two w1 b B T mk e1 k1 f1 v1 l1 us1 fi1 e2 k2 f2 v2 l2 us2 fi2 :=
  ⟨h.box.below hb h.box.lt, h.one.below (C := 0) hb, h.two.below (C := 0) hb, h.hb, h.dis, h.o12, h.o21, h.ff⟩
theorem Two.alloc (h : Two w b B T mk e1 k1 f1 v1 l1 us1 fi1 e2 k2 f2 v2 l2 us2 fi2) (o : Obj) : Two (w.alloc o) b B T mk e1 k1 f1 v1 l1 us1 fi1 e2 k2 f2 v2 l2 us2 fi2 := h.below ((Below.refl _ _).alloc (Nat.le_refl _) o)
theorem Two.drewN (h : Two w b B T mk e1 k1 f1 v1 l1 us1 fi1 e2 k2 f2 v2 l2 us2 fi2) (n : Nat) : Two (w.drewN n) b B T mk e1 k1 f1 v1 l1 us1 fi1 e2 k2 f2 v2 l2 us2 fi2 := h.below ⟨rfl, rfl, rfl, Nat.le_refl _, fun _ _ => rfl⟩
theorem gb_new {w w1 : World} {v v' : Value} {g : Nat} (hg : GB w w1 v v') (h : v'.ownBlock = some g) : v.ownBlock = some g ∨ w.heap.size ≤ g := by
  rcases hg.at' with e | ⟨x, e, hx⟩
  · exact .inl (e ▸ h)
  · rw [e] at h; injection h with h; exact .inr (h ▸ hx)
/-- at the end: two values of the call's own -/
theorem Two.toOw (h : Two w b B T mk e1 k1 f1 v1 l1 us1 fi1 e2 k2 f2 v2 l2 us2 fi2) : ∃ p1 p2, Ow w (.s k1 l1.length (l1.flatMap f1)) v1 p1 ∧ Ow w (.s k2 l2.length (l2.flatMap f2)) v2 p2 ∧ New w (p1 ++ p2) B := by
  obtain ⟨p1, o1, n1, s1⟩ := h.one.toOw'
  obtain ⟨p2, o2, n2, s2⟩ := h.two.toOw'
  refine ⟨p1, p2, o1, o2, ⟨n1.fr.app n2.fr, List.nodup_append.2 ⟨n1.nd, n2.nd, fun a ha c hc e => ?_⟩, fun g hg => ?_⟩⟩
  · subst e
    rcases s1 a ha with h1 | h1 <;> rcases s2 a hc with h2 | h2
    · exact h.dis a h1 h2
    · exact h.o12 a h1 h2
    · exact h.o21 a h2 h1
    · exact h.ff a h1 h2
  · rcases List.mem_append.1 hg with hg | hg
    · exact n1.uf g hg
    · exact n2.uf g hg
end
end Go.Proofs.YtddjgbhkfdpffaaGreatDoor
set_option linter.unusedVariables false
set_option linter.unusedSimpArgs false
namespace Go.Proofs.YtddjgbhkfdpffaaGreatDoor
open Go.ChangeShapes Go.WideShapes Go.ChangeAt Go.RowKit

theorem OwS.lit0 {α : Type} (w : World) (B : Nat) (hB : B ≤ w.heap.size) (e : TypeId) (k : Nat) (f : α → List D) : OwS (w.alloc (.cells #[] e)) B e k f (.slice (some ⟨w.heap.size, 0, none⟩) 0 0) [] [] [] :=
  ⟨⟨by simp, .inr ⟨_, 0, #[], rfl, hB, heap_alloc_new w _, Nat.le_refl _, by decide, by simp, by simp⟩⟩, by simp [OwC], New.nil _ _, fun g _ => by simp⟩
theorem OwS.lower {α : Type} {w : World} {B B' : Nat} {e : TypeId} {k : Nat} {f : α → List D} {v : Value} {l : List α} {us : List Value} {fi : List Nat} (h : OwS w B e k f v l us fi) (hB : B' ≤ B) : OwS w B' e k f v l us fi := by
  refine ⟨⟨h.own.1, ?_⟩, h.cells, h.new.mono hB, h.out⟩
  rcases h.own.2 with hn | ⟨g, cap, cur, hv, hb, rest⟩
  · exact .inl hn
  · exact .inr ⟨g, cap, cur, hv, Nat.le_trans hB hb, rest⟩
theorem str_src (x : ByteArray) (hx : x.size ≤ maxLen) (w : World) : OwC w ([x].flatMap strC) [.string x] [] := ⟨[], [], ⟨rfl, hx, rfl⟩, rfl, rfl⟩
theorem without_snoc (x : ByteArray) (l : List ByteArray) (j : Nat) (h : j < l.length) : without x (l.take (j + 1)) = without x (l.take j) ++ (if tb (l[j] = x) = true then [] else [l[j]]) := by
  unfold without
  rw [List.take_succ_eq_append_getElem h, List.filter_append]
  by_cases e : l[j] = x
  · rw [if_pos (tb_true e), List.filter_cons_of_neg (by simp [tb_false, e])]
    rfl
  · rw [if_neg (by rw [tb_false e]; simp), List.filter_cons_of_pos (by simp [tb_true e])]
    rfl
theorem without_len (x : ByteArray) (l : List ByteArray) (j : Nat) : (without x (l.take j)).length ≤ j := by
  unfold without
  exact Nat.le_trans (List.length_filter_le _ _) (by rw [List.length_take]; omega)
theorem afterW_len (d : Disk) (i : Nat) : (d.afterW i).length ≤ d.names.length + i := by
  induction i with
  | zero => rw [d.afterW_zero]; omega
  | succ i ih =>
    by_cases h : i < d.moves.length
    · rw [d.afterW_succ i h]
      unfold DiskMove.stepW
      split
      · exact Nat.le_trans (List.length_filter_le _ _) (by omega)
      · rw [List.length_append]; simp; omega
    · have e : d.afterW (i + 1) = d.afterW i := by
        unfold Disk.afterW
        rw [List.take_of_length_le (by omega), List.take_of_length_le (by omega)]
      rw [e]; omega

set_option maxRecDepth 100000 in
theorem l41Without_any (l : List ByteArray) (A : Option Addr) (n c : Nat) (fp : List Nat) (x : ByteArray) (w : World) (h : Ow w (.s 1 l.length (l.flatMap strC)) (.slice A n c) fp) (hf : Lt fp w.heap.size) (hx : x.size ≤ maxLen) (hl : l.length ≤ 4194304) :
    Calls Tryz.prog 120 #[.slice A n c, .string x] w fun e w' => ∃ v us, e = .returned v ∧ OwS w' w.heap.size 9 1 strC v (without x l) us [] ∧ Below w.heap.size w w' := by
  obtain ⟨rfl, hc, hm⟩ := h.nlen
  unfold maxLen at hm
  have HO := hide h
  clear h
  obtain ⟨ia, hia, ha0, ha1, ha2⟩ := info_parts info_string
  have HIa := hide hia
  clear hia
  have HOW0 := hide (OwS.lit0 w w.heap.size (Nat.le_refl _) 9 1 strC)
  go_enter Tryz.func120, Tryz.ntmps120
  go_wp2
  go_loopw [5, 6] (fun s i wr => ∃ (j : Nat) (A' : Option Addr) (n' c' : Nat) (us : List Value), j ≤ l.length ∧ s = .slice A' n' c' ∧ i = .int .i64 (j : Int) ∧ OwS wr w.heap.size 9 1 strC (.slice A' n' c') (without x (l.take j)) us [] ∧ Below w.heap.size w wr) (fun _ i _ => l.length - (intOf i).toNat)
  case atStart => exact ⟨0, _, _, _, [], Nat.zero_le _, rfl, rfl, HOW0.out, (Below.refl _ _).alloc (Nat.le_refl _) _⟩
  case round =>
    obtain ⟨j, A', n', c', us, hj, rfl, rfl, hs, hb⟩ := hrel
    have HB := hide hb
    have hsz := hb.size
    by_cases hlt : j < l.length
    · obtain ⟨g, off, rfl, hgm, hcell, hs1⟩ := strs_at (HO.out.below HB.out hf) hlt
      have HSN := hide (without_snoc x l j hlt)
      have hwl := without_len x l j
      have hgl := hf _ hgm
      by_cases he : l[j] = x
      · have e1 := txt_yes he
        have HE := hide (show without x (l.take (j + 1)) = without x (l.take j) from by rw [HSN.out, if_pos (tb_true he), List.append_nil])
        have HS := hide hs
        clear he HSN hs hb
        generalize l[j] = y at *
        go_wp2
        go_roundw
        case rel => exact ⟨j + 1, _, _, _, us, by omega, rfl, by go_num, by rw [HE.out]; exact HS.out, HB.out⟩
        case measure => simp [intOf]; omega
      · have e1 := txt_no he
        have HE := hide (show without x (l.take (j + 1)) = without x (l.take j) ++ [l[j]] from by rw [HSN.out, if_neg (by rw [tb_false he]; simp)])
        have HS := hide (hs.alloc (.cells #[.string l[j]] 9))
        have HDS := hide (fun W => str_src l[j] hs1 W)
        clear he HSN hs hb
        generalize l[j] = y at *
        go_wp2_with (first | (at_builtin; refine wpl_app rfl _ _ 23 rfl ia _ 16 Tryz.underlying23 HIa.out ha0 ha1 ha2 rfl (by decide) strC_len rfl HS.out [y] (HDS.out _) (by exact New.nil _ _) (fun g _ hg => by cases hg) _ 1 1 rfl rfl (SrcAt.new wr _ _ _ _) (by omega) (by decide) (by rw [World.size_alloc]; omega) ?_; intro A2 n2 c2 w5 hn5 hown5 hgb5; have HG5 := hide hgb5; have HN5 := hide hown5; clear hown5 hgb5 hn5))
        go_roundw
        case rel => exact ⟨j + 1, A2, n2, c2, _, by omega, rfl, by go_num, by rw [HE.out]; exact HN5.out, HB.out.trans (((Below.refl _ wr).alloc hsz _).trans (HG5.out.toBelow (by rw [World.size_alloc]; omega) (fun g e => HS.out.from e)))⟩
        case measure => simp [intOf]; omega
    · obtain rfl : j = l.length := by omega
      rw [List.take_length] at hs
      have HS := hide hs
      clear hs hb
      go_wp2
      go_ret
      exact ⟨_, us, rfl, HS.out, HB.out⟩
set_option maxRecDepth 100000 in
set_option maxHeartbeats 1000000 in
theorem l41After_any (d : Disk) (us0 : List Value) (fp : List Nat) (m : Nat) (w : World) (h : OwC w d.cells us0 fp) (hf : Lt fp w.heap.size) (hbk : d.bulk ≤ 1048576) (hm : m ≤ d.moves.length) :
    Calls Tryz.prog 77 #[.agg us0.toArray, .int .i64 (m : Int)] w fun e w' => ∃ v us, e = .returned v ∧ OwS w' w.heap.size 9 1 strC v (d.afterW m) us [] ∧ Below w.heap.size w w' := by
  obtain ⟨A1, c1, A2, c2, A3, c3, f1, f2, f3, rfl, o1, o2, o3, rfl⟩ := h.oDisk
  clear h
  obtain ⟨_, hc2, hm2⟩ := o2.nlen
  obtain ⟨_, hc3, hm3⟩ := o3.nlen
  unfold maxLen at hm2 hm3
  have hkb := d.bulk_eq
  unfold bulkStrs DiskFile.bulkL DiskMove.bulkL at hkb
  have RD : Row (w.alloc (.cells #[.slice A1 d.files.length c1, .slice A2 d.names.length c2, .slice A3 d.moves.length c3] 38)) w.heap.size 38 [.slice A1 d.files.length c1, .slice A2 d.names.length c2, .slice A3 d.moves.length c3] := Row.new w _ _
  obtain ⟨W1, hW1⟩ : ∃ W1, w.alloc (.cells #[.slice A1 d.files.length c1, .slice A2 d.names.length c2, .slice A3 d.moves.length c3] 38) = W1 := ⟨_, rfl⟩
  have hB1 : Below w.heap.size w W1 := hW1 ▸ (Below.refl _ _).alloc (Nat.le_refl _) _
  have hszW : w.heap.size + 1 ≤ W1.heap.size := by rw [← hW1, World.size_alloc]; exact Nat.le_refl _
  rw [hW1] at RD
  have HB1 := hide hB1
  have HRD := hide RD
  have O2 := hide (o2.below hB1 hf.right.left)
  have O3 := hide o3
  obtain ⟨ia, hia, ha0, ha1, ha2⟩ := info_parts info_string
  have HIa := hide hia
  obtain ⟨us, hsu, hsa⟩ := (O2.out.alloc (hf.right.left.mono hB1.size) (.cells #[] 9)).srcStrs
  have HSU := hide hsu
  have HSA := hide hsa
  have d1 : W1.cell? ⟨w.heap.size, 1, none⟩ = some (.slice A2 d.names.length c2) := RD.cell 1
  have ld := RD.lt
  clear o1 o2 o3 hia hB1 RD hsu hsa
  go_enter Tryz.func77, Tryz.ntmps77
  go_wp2_with (first | (at_builtin; refine wpl_app rfl _ _ 23 rfl ia _ 16 Tryz.underlying23 HIa.out ha0 ha1 ha2 rfl (by decide) strC_len rfl (OwS.lit0 W1 (w.heap.size + 1) hszW 9 1 strC) d.names HSU.out (by exact New.nil _ _) (fun g _ hg => by cases hg) _ _ _ rfl rfl HSA.out (by simp only [List.length_nil]; omega) (by decide) (by rw [World.size_alloc]; omega) ?_; intro A' n' c' w5 hn5 hown5 hgb5; have HG5 := hide hgb5; have HN5 := hide hown5; clear hown5 hgb5 hn5))
  have HRD5 := hide (HG5.out.row (HRD.out.alloc _) (fun e => by have e' : W1.heap.size = w.heap.size := (by injection e); omega))
  have HB5 := hide (HB1.out.trans (((Below.refl w.heap.size W1).alloc (by omega) _).trans (HG5.out.toBelow (by rw [World.size_alloc]; omega) (fun g e => by have e' : W1.heap.size = g := (by injection e); omega))))
  have HS0 := hide (show OwS w5 (w.heap.size + 1) 9 1 strC (.slice A' n' c') (d.afterW 0) ([] ++ us) [] from by rw [d.afterW_zero]; exact HN5.out)
  clear d1 ld HSU HSA HG5 HN5 HB1 HRD
  go_loopw [5, 6] (fun s i wr => ∃ (j : Nat) (A' : Option Addr) (n' c' : Nat) (us : List Value), j ≤ m ∧ s = .slice A' n' c' ∧ i = .int .i64 (j : Int) ∧ OwS wr (w.heap.size + 1) 9 1 strC (.slice A' n' c') (d.afterW j) us [] ∧ Below w.heap.size w wr ∧ Row wr w.heap.size 38 [.slice A1 d.files.length c1, .slice A2 d.names.length c2, .slice A3 d.moves.length c3]) (fun _ i _ => m - (intOf i).toNat)
  case atStart => exact ⟨0, _, _, _, _, Nat.zero_le _, rfl, rfl, HS0.out, HB5.out, HRD5.out⟩
  case round =>
    clear HS0 HB5 HRD5
    obtain ⟨j, A', n', c', us, hj, rfl, rfl, hs, hb, hrd⟩ := hrel
    have HB := hide hb
    have HRD := hide hrd
    have hsz := hb.size
    have hsz1 : w.heap.size + 1 ≤ wr.heap.size := hrd.lt
    have ld := hrd.lt
    have d2 : wr.cell? ⟨w.heap.size, 2, none⟩ = some (.slice A3 d.moves.length c3) := hrd.cell 2
    have hal := afterW_len d j
    by_cases hlt : j < m
    · have hlt2 : j < d.moves.length := by omega
      obtain ⟨g, off, ws, fi, rfl, hgm, hfi, hwl, hcs, hov⟩ := (O3.out.below HB.out hf.right.right).elem DiskMove.cells_len hlt2
      have HSN := hide (d.afterW_succ j hlt2)
      have hgl := hf.right.right _ hgm
      have hgw := Nat.lt_of_lt_of_le hgl hsz
      have hbt : ((j : Int) < (m : Int)) := by omega
      obtain ⟨rfl, hs1, rfl⟩ := hov.oDiskMove
      have p0 := hcs 0 _ rfl
      have p1 := hcs 1 _ rfl
      simp only [Nat.add_zero] at p0
      clear hcs hov hb hrd
      by_cases hg : d.moves[j].gone = true
      · have HE := hide (show d.afterW (j + 1) = without d.moves[j].name (d.afterW j) from by rw [HSN.out]; unfold DiskMove.stepW; rw [if_pos hg])
        obtain ⟨fp', ho', hn', _⟩ := hs.toOw'
        have HO' := hide ho'
        have HN' := hide hn'
        clear HSN hs ho' hn'
        generalize d.moves[j] = y at *
        rw [hg] at p0
        clear hg
        generalize d.afterW j = L at *
        go_wp2_with fail
        refine (l41Without_any L _ _ _ _ _ _ HO'.out HN'.out.lt hs1 (by omega)).mono ?_
        rintro e w2 ⟨v, us2, rfl, hs2, hb2⟩
        obtain ⟨A2', c2', rfl⟩ := hs2.form
        have HS2 := hide (hs2.lower hsz1)
        have HB2 := hide (HB.out.trans (hb2.mono hsz))
        have HRD2 := hide (HRD.out.below hb2 HRD.out.lt)
        clear hs2 hb2
        go_wp2
        go_roundw
        case rel => exact ⟨j + 1, _, _, _, us2, by omega, rfl, by go_num, by rw [HE.out]; exact HS2.out, HB2.out, HRD2.out⟩
        case measure => simp [intOf]; omega
      · have hg' : d.moves[j].gone = false := by simpa using hg
        have HE := hide (show d.afterW (j + 1) = d.afterW j ++ [d.moves[j].name] from by rw [HSN.out]; unfold DiskMove.stepW; rw [if_neg hg])
        have HS := hide (hs.alloc (.cells #[.string d.moves[j].name] 9))
        have HDS := hide (fun W => str_src d.moves[j].name hs1 W)
        clear HSN hs hg
        generalize d.moves[j] = y at *
        rw [hg'] at p0
        clear hg'
        generalize d.afterW j = L at *
        go_wp2_with (first | (at_builtin; refine wpl_app rfl _ _ 23 rfl ia _ 16 Tryz.underlying23 HIa.out ha0 ha1 ha2 rfl (by decide) strC_len rfl HS.out [y.name] (HDS.out _) (by exact New.nil _ _) (fun g _ hg => by cases hg) _ 1 1 rfl rfl (SrcAt.new wr _ _ _ _) (by omega) (by decide) (by rw [World.size_alloc]; omega) ?_; intro A5 n5 c5 w5 hn5 hown5 hgb5; have HG5 := hide hgb5; have HN5 := hide hown5; clear hown5 hgb5 hn5))
        go_roundw
        case rel => exact ⟨j + 1, A5, n5, c5, _, by omega, rfl, by go_num, by rw [HE.out]; exact HN5.out, HB.out.trans (((Below.refl _ wr).alloc hsz _).trans (HG5.out.toBelow (by rw [World.size_alloc]; omega) (fun g e => Nat.le_of_succ_le (HS.out.from e)))), HG5.out.row (HRD.out.alloc _) (HS.out.low (Nat.lt_succ_self _))⟩
        case measure => simp [intOf]; omega
    · obtain rfl : j = m := by omega
      have HS := hide hs
      clear hs hb
      go_wp2
      go_ret
      exact ⟨_, us, rfl, HS.out.lower (Nat.le_succ _), HB.out⟩
end Go.Proofs.YtddjgbhkfdpffaaGreatDoor
set_option linter.unusedVariables false
set_option linter.unusedSimpArgs false
namespace Go.Proofs.YtddjgbhkfdpffaaGreatDoor
open Go.ChangeShapes Go.WideShapes Go.ChangeAt Go.RowKit

/-- the place of the first file with a name, or -1 -/
def FindIs (l : List DiskFile) (x : ByteArray) (z : Int) : Prop :=
  (∃ k : Nat, z = (k : Int) ∧ (∃ h : k < l.length, l[k].name = x) ∧ ∀ j (h : j < l.length), j < k → l[j].name ≠ x) ∨ (z = -1 ∧ ∀ j (h : j < l.length), l[j].name ≠ x)
set_option maxRecDepth 100000 in
theorem l6Has_any (l : List ByteArray) (A : Option Addr) (n c : Nat) (fp : List Nat) (x : ByteArray) (w : World) (h : Ow w (.s 1 l.length (l.flatMap strC)) (.slice A n c) fp) :
    Calls Tryz.prog 76 #[.slice A n c, .string x] w fun e w' => e = .returned (.bool (tb (x ∈ l))) ∧ w = w' := by
  obtain ⟨rfl, hc, hm⟩ := h.nlen
  unfold maxLen at hm
  have HO := hide h
  clear h
  go_enter Tryz.func76, Tryz.ntmps76
  go_wp2
  go_loopw [5] (fun i wr => (∃ j : Nat, j ≤ l.length ∧ i = .int .i64 (j : Int) ∧ ∀ a (h : a < l.length), a < j → l[a] ≠ x) ∧ w = wr) (fun i _ => l.length - (intOf i).toNat)
  case atStart => exact ⟨⟨0, Nat.zero_le _, rfl, fun a h1 h => absurd h (by omega)⟩, rfl⟩
  case round =>
    obtain ⟨⟨j, hj, rfl, ha⟩, rfl⟩ := hrel
    have HA := hide ha
    clear ha
    by_cases hlt : j < l.length
    · obtain ⟨g, off, rfl, hgm, hcell, hs1⟩ := strs_at HO.out hlt
      by_cases he : l[j] = x
      · have e1 := txt_yes he
        have HT := hide (tb_true (show x ∈ l from he ▸ List.getElem_mem hlt))
        clear he
        generalize l[j] = y at *
        go_wp2
        go_ret
        exact ⟨ret_bool HT.out.symm, rfl⟩
      · have e1 := txt_no he
        have HN := hide (fun (a : Nat) (h : a < l.length) (hl : a < j + 1) => show l[a] ≠ x from by
          by_cases e : a < j
          · exact HA.out a h e
          · obtain rfl : a = j := by omega
            exact he)
        clear he
        generalize l[j] = y at *
        go_wp2
        go_roundw
        case rel => first | exact ⟨⟨j + 1, by omega, by go_num, HN.out⟩, trivial⟩ | exact ⟨⟨j + 1, by omega, by go_num, HN.out⟩, rfl⟩
        case measure => simp [intOf]; omega
    · obtain rfl : j = l.length := by omega
      have HT := hide (tb_false (p := x ∈ l) (fun hx => by
        obtain ⟨i, hi, e⟩ := List.getElem_of_mem hx
        exact HA.out i hi hi e))
      go_wp2
      go_ret
      exact ⟨ret_bool HT.out.symm, rfl⟩
set_option maxRecDepth 100000 in
theorem l41Find_any (l : List DiskFile) (A : Option Addr) (n c : Nat) (fp : List Nat) (x : ByteArray) (w : World) (h : Ow w (.s 3 l.length (l.flatMap DiskFile.cells)) (.slice A n c) fp) :
    Calls Tryz.prog 75 #[.slice A n c, .string x] w fun e w' => (∃ z : Int, e = .returned (.int .i64 z) ∧ FindIs l x z) ∧ w = w' := by
  obtain ⟨rfl, hc, hm⟩ := h.nlen
  unfold maxLen at hm
  have HO := hide h
  clear h
  go_enter Tryz.func75, Tryz.ntmps75
  go_wp2
  go_loopw [5] (fun i wr => (∃ j : Nat, j ≤ l.length ∧ i = .int .i64 (j : Int) ∧ ∀ a (h : a < l.length), a < j → l[a].name ≠ x) ∧ w = wr) (fun i _ => l.length - (intOf i).toNat)
  case atStart => exact ⟨⟨0, Nat.zero_le _, rfl, fun a h1 h => absurd h (by omega)⟩, rfl⟩
  case round =>
    obtain ⟨⟨j, hj, rfl, ha⟩, rfl⟩ := hrel
    have HA := hide ha
    clear ha
    by_cases hlt : j < l.length
    · obtain ⟨g, off, ws, fi, rfl, hgm, hfi, hwl, hcs, hov⟩ := HO.out.elem DiskFile.cells_len hlt
      obtain ⟨rfl, hs0, hs1, hw2, rfl⟩ := hov.oDiskFile
      have p0 := hcs 0 _ rfl
      simp only [Nat.add_zero] at p0
      clear hcs hov
      by_cases he : l[j].name = x
      · have e1 := txt_yes he
        have HT := hide (show FindIs l x (j : Int) from .inl ⟨j, rfl, ⟨hlt, he⟩, HA.out⟩)
        clear he
        generalize l[j] = y at *
        go_wp2
        go_ret
        exact ⟨⟨_, rfl, HT.out⟩, rfl⟩
      · have e1 := txt_no he
        have HN := hide (fun (a : Nat) (h : a < l.length) (hl : a < j + 1) => show l[a].name ≠ x from by
          by_cases e : a < j
          · exact HA.out a h e
          · obtain rfl : a = j := by omega
            exact he)
        clear he
        generalize l[j] = y at *
        go_wp2
        go_roundw
        case rel => first | exact ⟨⟨j + 1, by omega, by go_num, HN.out⟩, trivial⟩ | exact ⟨⟨j + 1, by omega, by go_num, HN.out⟩, rfl⟩
        case measure => simp [intOf]; omega
    · obtain rfl : j = l.length := by omega
      have HT := hide (show FindIs l x (-1) from .inr ⟨rfl, fun i hi => HA.out i hi hi⟩)
      go_wp2
      go_ret
      exact ⟨⟨_, rfl, HT.out⟩, rfl⟩
theorem made_len (d : Disk) (i : Nat) : (d.made i).length ≤ d.names.length + i := by
  induction i with
  | zero => rw [d.made_zero]; omega
  | succ i ih =>
    by_cases h : i < d.moves.length
    · rw [d.made_succ i h, List.length_append]
      unfold DiskMove.makes
      split <;> simp <;> omega
    · have e : d.made (i + 1) = d.made i := by
        unfold Disk.made
        rw [List.take_of_length_le (by omega), List.take_of_length_le (by omega)]
      rw [e]; omega
set_option maxRecDepth 100000 in
set_option maxHeartbeats 1000000 in
theorem l41Made_any (d : Disk) (us0 : List Value) (fp : List Nat) (w : World) (h : OwC w d.cells us0 fp) (hf : Lt fp w.heap.size) (hbk : d.bulk ≤ 1048576) :
    Calls Tryz.prog 73 #[.agg us0.toArray] w fun e w' => ∃ v us, e = .returned v ∧ OwS w' w.heap.size 9 1 strC v (d.made d.moves.length) us [] ∧ Below w.heap.size w w' := by
  obtain ⟨A1, c1, A2, c2, A3, c3, f1, f2, f3, rfl, o1, o2, o3, rfl⟩ := h.oDisk
  clear h
  obtain ⟨_, hc2, hm2⟩ := o2.nlen
  obtain ⟨_, hc3, hm3⟩ := o3.nlen
  unfold maxLen at hm2 hm3
  have hkb := d.bulk_eq
  unfold bulkStrs DiskFile.bulkL DiskMove.bulkL at hkb
  have RD : Row (w.alloc (.cells #[.slice A1 d.files.length c1, .slice A2 d.names.length c2, .slice A3 d.moves.length c3] 38)) w.heap.size 38 [.slice A1 d.files.length c1, .slice A2 d.names.length c2, .slice A3 d.moves.length c3] := Row.new w _ _
  obtain ⟨W1, hW1⟩ : ∃ W1, w.alloc (.cells #[.slice A1 d.files.length c1, .slice A2 d.names.length c2, .slice A3 d.moves.length c3] 38) = W1 := ⟨_, rfl⟩
  have hB1 : Below w.heap.size w W1 := hW1 ▸ (Below.refl _ _).alloc (Nat.le_refl _) _
  have hszW : w.heap.size + 1 ≤ W1.heap.size := by rw [← hW1, World.size_alloc]; exact Nat.le_refl _
  rw [hW1] at RD
  have HB1 := hide hB1
  have HRD := hide RD
  have O2 := hide (o2.below hB1 hf.right.left)
  have O3 := hide o3
  obtain ⟨ia, hia, ha0, ha1, ha2⟩ := info_parts info_string
  have HIa := hide hia
  obtain ⟨us, hsu, hsa⟩ := (O2.out.alloc (hf.right.left.mono hB1.size) (.cells #[] 9)).srcStrs
  have HSU := hide hsu
  have HSA := hide hsa
  have d1 : W1.cell? ⟨w.heap.size, 1, none⟩ = some (.slice A2 d.names.length c2) := RD.cell 1
  have ld := RD.lt
  clear o1 o2 o3 hia hB1 RD hsu hsa
  go_enter Tryz.func73, Tryz.ntmps73
  go_wp2_with (first | (at_builtin; refine wpl_app rfl _ _ 23 rfl ia _ 16 Tryz.underlying23 HIa.out ha0 ha1 ha2 rfl (by decide) strC_len rfl (OwS.lit0 W1 (w.heap.size + 1) hszW 9 1 strC) d.names HSU.out (by exact New.nil _ _) (fun g _ hg => by cases hg) _ _ _ rfl rfl HSA.out (by simp only [List.length_nil]; omega) (by decide) (by rw [World.size_alloc]; omega) ?_; intro A' n' c' w5 hn5 hown5 hgb5; have HG5 := hide hgb5; have HN5 := hide hown5; clear hown5 hgb5 hn5))
  have HRD5 := hide (HG5.out.row (HRD.out.alloc _) (fun e => by have e' : W1.heap.size = w.heap.size := (by injection e); omega))
  have HB5 := hide (HB1.out.trans (((Below.refl w.heap.size W1).alloc (by omega) _).trans (HG5.out.toBelow (by rw [World.size_alloc]; omega) (fun g e => by have e' : W1.heap.size = g := (by injection e); omega))))
  have HS0 := hide (show OwS w5 (w.heap.size + 1) 9 1 strC (.slice A' n' c') (d.made 0) ([] ++ us) [] from by rw [d.made_zero]; exact HN5.out)
  clear d1 ld HSU HSA HG5 HN5 HB1 HRD
  go_loopw [3, 4] (fun s i wr => ∃ (j : Nat) (A' : Option Addr) (n' c' : Nat) (us : List Value), j ≤ d.moves.length ∧ s = .slice A' n' c' ∧ i = .int .i64 (j : Int) ∧ OwS wr (w.heap.size + 1) 9 1 strC (.slice A' n' c') (d.made j) us [] ∧ Below w.heap.size w wr ∧ Row wr w.heap.size 38 [.slice A1 d.files.length c1, .slice A2 d.names.length c2, .slice A3 d.moves.length c3]) (fun _ i _ => d.moves.length - (intOf i).toNat)
  case atStart => exact ⟨0, _, _, _, _, Nat.zero_le _, rfl, rfl, HS0.out, HB5.out, HRD5.out⟩
  case round =>
    clear HS0 HB5 HRD5
    obtain ⟨j, A', n', c', us, hj, rfl, rfl, hs, hb, hrd⟩ := hrel
    have HB := hide hb
    have HRD := hide hrd
    have hsz := hb.size
    have hsz1 : w.heap.size + 1 ≤ wr.heap.size := hrd.lt
    have ld := hrd.lt
    have d2 : wr.cell? ⟨w.heap.size, 2, none⟩ = some (.slice A3 d.moves.length c3) := hrd.cell 2
    have hal := made_len d j
    by_cases hlt : j < d.moves.length
    · have hlt2 : j < d.moves.length := by omega
      obtain ⟨g, off, ws, fi, rfl, hgm, hfi, hwl, hcs, hov⟩ := (O3.out.below HB.out hf.right.right).elem DiskMove.cells_len hlt2
      have HSN := hide (d.made_succ j hlt2)
      have hgl := hf.right.right _ hgm
      have hgw := Nat.lt_of_lt_of_le hgl hsz
      obtain ⟨rfl, hs1, rfl⟩ := hov.oDiskMove
      have p0 := hcs 0 _ rfl
      have p1 := hcs 1 _ rfl
      simp only [Nat.add_zero] at p0
      clear hcs hov hb hrd
      by_cases hg : d.moves[j].gone = true
      · have HE := hide (show d.made (j + 1) = d.made j from by rw [HSN.out]; unfold DiskMove.makes; rw [if_pos hg, List.append_nil])
        have HS := hide hs
        clear HSN hs
        generalize d.moves[j] = y at *
        rw [hg] at p0
        clear hg
        go_wp2
        go_roundw
        case rel => exact ⟨j + 1, _, _, _, us, by omega, rfl, by go_num, by rw [HE.out]; exact HS.out, HB.out, HRD.out⟩
        case measure => simp [intOf]; omega
      · have hg' : d.moves[j].gone = false := by simpa using hg
        have HE := hide (show d.made (j + 1) = d.made j ++ [d.moves[j].name] from by rw [HSN.out]; unfold DiskMove.makes; rw [if_neg hg])
        have HS := hide (hs.alloc (.cells #[.string d.moves[j].name] 9))
        have HDS := hide (fun W => str_src d.moves[j].name hs1 W)
        clear HSN hs hg
        generalize d.moves[j] = y at *
        rw [hg'] at p0
        clear hg'
        generalize d.made j = L at *
        go_wp2_with (first | (at_builtin; refine wpl_app rfl _ _ 23 rfl ia _ 16 Tryz.underlying23 HIa.out ha0 ha1 ha2 rfl (by decide) strC_len rfl HS.out [y.name] (HDS.out _) (by exact New.nil _ _) (fun g _ hg => by cases hg) _ 1 1 rfl rfl (SrcAt.new wr _ _ _ _) (by omega) (by decide) (by rw [World.size_alloc]; omega) ?_; intro A5 n5 c5 w5 hn5 hown5 hgb5; have HG5 := hide hgb5; have HN5 := hide hown5; clear hown5 hgb5 hn5))
        go_roundw
        case rel => exact ⟨j + 1, A5, n5, c5, _, by omega, rfl, by go_num, by rw [HE.out]; exact HN5.out, HB.out.trans (((Below.refl _ wr).alloc hsz _).trans (HG5.out.toBelow (by rw [World.size_alloc]; omega) (fun g e => Nat.le_of_succ_le (HS.out.from e)))), HG5.out.row (HRD.out.alloc _) (HS.out.low (Nat.lt_succ_self _))⟩
        case measure => simp [intOf]; omega
    · obtain rfl : j = d.moves.length := by omega
      have HS := hide hs
      clear hs hb
      go_wp2
      go_ret
      exact ⟨_, us, rfl, HS.out.lower (Nat.le_succ _), HB.out⟩
end Go.Proofs.YtddjgbhkfdpffaaGreatDoor
