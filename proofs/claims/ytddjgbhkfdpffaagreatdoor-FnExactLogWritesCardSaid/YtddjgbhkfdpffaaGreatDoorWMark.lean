/-
  The laws' own marks: what markText, markStringS, markIntS, markByteS write, and that heldStringS, heldIntS, heldByteS find it again.
-/
import Derived.Deep.RegionHeld3
import Derived.Test.YtddjgbhkfdpffaaGreatDoorWStr
set_option linter.unusedVariables false
set_option linter.unusedSimpArgs false
namespace Go.Proofs.YtddjgbhkfdpffaaGreatDoor
open Go.ChangeShapes Go.WideShapes Go.ChangeAt Go.RowKit

/-- a literal of one byte as a text -/
theorem size1 (a : Int) : (strOfNums [a]).size = 1 := rfl
theorem run_conv1 {P : Program} (src dst e : TypeId) (hs : P.underlying src = some (.slice e)) (he : P.underlying e = some (.int .u8)) (hd : P.underlying dst = some .string)
    (w : World) (a : Int) (g : Nat) (hg : g = w.heap.size) (n : Nat) :
    (convert src dst (.slice (some ⟨g, 0, none⟩) 1 n)).run P (w.alloc (.cells #[.int .u8 a] e)) = .ok (.string (strOfNums [a])) (w.alloc (.cells #[.int .u8 a] e)) := by
  subst hg
  refine run_convert_bytes_arg _ src e hs he _ 0 1 n [a] rfl (fun i hi => ?_) dst hd
  rw [World.cell?_alloc_new]
  match i, hi with
  | 0, _ => rfl

theorem OwL.frame' {w w' : World} : ∀ (l : List D) {g off : Nat} {fp : List Nat}, (∀ o, off ≤ o → o < off + l.length → w'.cell? ⟨g, o, none⟩ = w.cell? ⟨g, o, none⟩) → (∀ b ∈ fp, w'.heap[b]? = w.heap[b]?) → OwL w l g off fp → OwL w' l g off fp
  | [], _, _, _, _, _, h => by simpa [OwL] using h
  | d :: r, g, off, fp, hg, hf, h => by
    unfold OwL at h ⊢
    obtain ⟨u, f1, f2, hc, h1, h2, rfl⟩ := h
    refine ⟨u, f1, f2, (hg off (Nat.le_refl _) (by simp)).trans hc, Ow.frame d (fun b hb => hf b (by simp [hb])) h1, OwL.frame' r (fun o h3 h4 => hg o (by omega) (by simp; omega)) (fun b hb => hf b (by simp [hb])) h2, rfl⟩

theorem flat_set {α : Type} (f : α → List D) (k : Nat) (hk : ∀ x, (f x).length = k) : ∀ (l : List α) (i : Nat) (h : i < l.length),
    ∃ pre post, l.flatMap f = pre ++ (f l[i] ++ post) ∧ pre.length = i * k ∧ ∀ x, (l.set i x).flatMap f = pre ++ (f x ++ post)
  | x :: l, 0, _ => ⟨[], l.flatMap f, by simp, by simp, fun y => by simp⟩
  | x :: l, i + 1, h => by
    obtain ⟨pre, post, e, hp, hs⟩ := flat_set f k hk l i (by simpa using h)
    refine ⟨f x ++ pre, post, ?_, ?_, fun y => ?_⟩
    · simp [e]
    · simp [hp, hk, Nat.add_mul, Nat.add_comm]
    · simp [hs]

/-- Only blocks of fp may have turned; what may be written may still be. -/
structure Touch (fp : List Nat) (w w' : World) : Prop where
  os : w'.os = w.os
  tape : w'.tape = w.tape
  output : w'.output = w.output
  size : w.heap.size ≤ w'.heap.size
  block : ∀ b, b < w.heap.size → b ∉ fp → w'.heap[b]? = w.heap[b]?
  unf : ∀ g, Unf w g → Unf w' g
theorem unf_lt {w : World} {g : Nat} (h : Unf w g) : g < w.heap.size := by
  obtain ⟨cs, e, h⟩ := h
  rcases Nat.lt_or_ge g w.heap.size with hlt | hge
  · exact hlt
  · rw [Array.getElem?_eq_none hge] at h; cases h
theorem unf_frozen {w : World} {g : Nat} (h : Unf w g) (o : Nat) : w.frozen? ⟨g, o, none⟩ = false := by
  obtain ⟨cs, e, h⟩ := h
  simp [World.frozen?, h]
theorem Touch.refl (fp : List Nat) (w : World) : Touch fp w w := ⟨rfl, rfl, rfl, Nat.le_refl _, fun _ _ _ => rfl, fun _ h => h⟩
theorem Touch.trans {fp : List Nat} {a b c : World} (h : Touch fp a b) (k : Touch fp b c) : Touch fp a c :=
  ⟨k.os.trans h.os, k.tape.trans h.tape, k.output.trans h.output, Nat.le_trans h.size k.size, fun g h1 h2 => (k.block g (Nat.lt_of_lt_of_le h1 h.size) h2).trans (h.block g h1 h2), fun g hg => k.unf g (h.unf g hg)⟩
theorem Touch.mono {fp fq : List Nat} {a b : World} (h : Touch fp a b) (hs : fp ⊆ fq) : Touch fq a b := ⟨h.os, h.tape, h.output, h.size, fun g h1 h2 => h.block g h1 (fun hm => h2 (hs hm)), h.unf⟩
theorem Touch.below {fp : List Nat} {a b : World} (h : Below a.heap.size a b) : Touch fp a b :=
  ⟨h.os, h.tape, h.output, h.size, fun g h1 _ => h.block g h1, fun g hg => hg.same (h.block g (unf_lt hg))⟩
theorem Touch.setCell {fp : List Nat} {w : World} {a : Addr} (ha : a.block ∈ fp) (u : Value) : Touch fp w (w.setCell a u) :=
  ⟨rfl, rfl, rfl, by simp [World.setCell], fun b h1 h2 => Below.heap_setCell w a u b (fun e => h2 (e ▸ ha)), fun g hg => hg.setCell a u⟩
theorem Touch.drewN {fp : List Nat} (w : World) (n : Nat) : Touch fp w (w.drewN n) := ⟨rfl, rfl, rfl, Nat.le_refl _, fun _ _ _ => rfl, fun _ h => h⟩
theorem Touch.to_below {fp : List Nat} {B : Nat} {w w' : World} (h : Touch fp w w') (hB : B ≤ w.heap.size) (hf : ∀ g ∈ fp, B ≤ g) : Below B w w' :=
  ⟨h.os, h.tape, h.output, h.size, fun k hk => h.block k (by omega) (fun hm => by have := hf k hm; omega)⟩
theorem Touch.new {fp fq : List Nat} {lo : Nat} {w w' : World} (h : Touch fp w w') (hn : New w fq lo) : New w' fq lo :=
  ⟨hn.fr.mono (Nat.le_refl _) h.size, hn.nd, fun g hg => h.unf g (hn.uf g hg)⟩
theorem Ow.touch {fp fq : List Nat} {w w' : World} {d : D} {y : Value} (ho : Ow w d y fq) (h : Touch fp w w') (hl : Lt fq w.heap.size) (hd : ∀ g ∈ fq, g ∉ fp) : Ow w' d y fq :=
  Ow.frame d (fun g hg => h.block g (hl g hg) (hd g hg)) ho
theorem OwC.touch {fp fq : List Nat} {w w' : World} {l : List D} {us : List Value} (ho : OwC w l us fq) (h : Touch fp w w') (hl : Lt fq w.heap.size) (hd : ∀ g ∈ fq, g ∉ fp) : OwC w' l us fq :=
  OwC.frame l (fun g hg => h.block g (hl g hg) (hd g hg)) ho

/-- Within one element of a row: only the element's own cells, and blocks of fi, may have turned. -/
structure Seg (g lo hi : Nat) (fi : List Nat) (w w' : World) : Prop where
  os : w'.os = w.os
  tape : w'.tape = w.tape
  output : w'.output = w.output
  size : w.heap.size ≤ w'.heap.size
  cell : ∀ o, o < lo ∨ hi ≤ o → w'.cell? ⟨g, o, none⟩ = w.cell? ⟨g, o, none⟩
  block : ∀ b, b < w.heap.size → b ≠ g → b ∉ fi → w'.heap[b]? = w.heap[b]?
  unf : ∀ g, Unf w g → Unf w' g
theorem Seg.refl (g lo hi : Nat) (fi : List Nat) (w : World) : Seg g lo hi fi w w := ⟨rfl, rfl, rfl, Nat.le_refl _, fun _ _ => rfl, fun _ _ _ _ => rfl, fun _ h => h⟩
theorem Seg.setCell {g lo hi : Nat} {fi : List Nat} {w w' : World} (h : Seg g lo hi fi w w') {o : Nat} (h1 : lo ≤ o) (h2 : o < hi) (u : Value) : Seg g lo hi fi w (w'.setCell ⟨g, o, none⟩ u) :=
  ⟨h.os, h.tape, h.output, by simpa [World.setCell] using h.size, fun p hp => (World.cell?_setCell_other _ ⟨g, o, none⟩ ⟨g, p, none⟩ _ (by simp; try omega)).trans (h.cell p hp), fun b hb hn hf => (Below.heap_setCell _ _ _ b hn).trans (h.block b hb hn hf), fun x hx => (h.unf x hx).setCell _ _⟩
theorem Seg.touch {g lo hi : Nat} {fi fj : List Nat} {a w w' : World} (h : Seg g lo hi fi a w) (ht : Touch fj w w') (hs : fj ⊆ fi) (hg : g ∉ fj) (hgl : g < w.heap.size) : Seg g lo hi fi a w' :=
  ⟨ht.os.trans h.os, ht.tape.trans h.tape, ht.output.trans h.output, Nat.le_trans h.size ht.size, fun o ho => (World.cell?_of_block (a := ⟨g, o, none⟩) (ht.block g hgl hg)).trans (h.cell o ho), fun b hb hn hf => (ht.block b (Nat.lt_of_lt_of_le hb h.size) (fun hm => hf (hs hm))).trans (h.block b hb hn hf), fun x hx => ht.unf x (h.unf x hx)⟩
theorem Seg.to_touch {g lo hi : Nat} {fi fp : List Nat} {w w' : World} (h : Seg g lo hi fi w w') (hg : g ∈ fp) (hs : fi ⊆ fp) : Touch fp w w' :=
  ⟨h.os, h.tape, h.output, h.size, fun b hb hn => h.block b hb (fun e => hn (e ▸ hg)) (fun hm => hn (hs hm)), h.unf⟩

/-- AN ELEMENT OF A SLICE, opened so that it can be turned and put back. -/
theorem Ow.upd {w : World} {α : Type} {f : α → List D} {k : Nat} (hk : ∀ x, (f x).length = k) {l : List α} {A : Option Addr} {n c : Nat} {fp : List Nat}
    (h : Ow w (.s k l.length (l.flatMap f)) (.slice A n c) fp) (nd : fp.Nodup) {i : Nat} (hi : i < l.length) :
    ∃ g off us fi, A = some ⟨g, off, none⟩ ∧ g ∈ fp ∧ fi ⊆ fp ∧ g ∉ fi ∧ fi.Nodup ∧ us.length = k ∧ (∀ j u, us[j]? = some u → w.cell? ⟨g, off + i * k + j, none⟩ = some u) ∧ OwC w (f l[i]) us fi ∧
      ∀ (w' : World) (x' : α) (us' : List Value), OwC w' (f x') us' fi → (∀ j u, us'[j]? = some u → w'.cell? ⟨g, off + i * k + j, none⟩ = some u) → Seg g (off + i * k) (off + i * k + k) fi w w' → Lt fp w.heap.size →
        Ow w' (.s k l.length ((l.set i x').flatMap f)) (.slice A n c) fp := by
  unfold Ow at h
  obtain ⟨hlen, A', c', e, hnc, hcm, h3⟩ := h
  injection e with e1 e2 e3
  subst e1 e2 e3
  rcases h3 with ⟨h3, _⟩ | ⟨h3, g, off, ff, rfl, ho, rfl⟩
  · omega
  · obtain ⟨pre, post, e, hp, hset⟩ := flat_set f k hk l i hi
    have hlen' := hlen
    rw [e] at ho
    obtain ⟨f1, f2, h1, h2, rfl⟩ := (OwL.append _ _ _ _ _).1 ho
    obtain ⟨f3, f4, h3', h4, rfl⟩ := (OwL.append _ _ _ _ _).1 h2
    rw [hp] at h3' h4
    rw [hk] at h4
    obtain ⟨us, hl, hc, hoc⟩ := OwL.cells _ h3'
    have nd1 := List.nodup_cons.1 nd
    have nd2 := List.nodup_append.1 nd1.2
    have nd3 := List.nodup_append.1 nd2.2.1
    refine ⟨g, off, us, f3, rfl, by simp, fun b hb => by simp [hb], fun hm => nd1.1 (by simp [hm]), nd3.1, hl.trans (hk _), hc, hoc, ?_⟩
    intro w' x' us' ho' hc' hseg hlt
    unfold Ow
    refine ⟨by rw [hset]; rw [e] at hlen; simp only [List.length_append, hk] at hlen ⊢; exact hlen, _, _, rfl, hnc, hcm, .inr ⟨h3, g, off, _, rfl, ?_, rfl⟩⟩
    rw [hset]
    refine (OwL.append _ _ _ _ _).2 ⟨f1, f3 ++ f4, ?_, (OwL.append _ _ _ _ _).2 ⟨f3, f4, ?_, ?_, rfl⟩, rfl⟩
    · refine OwL.frame' _ (fun o h5 h6 => hseg.cell o (.inl (by omega))) (fun b hb => hseg.block b (hlt b (by simp [hb])) (fun e => nd1.1 (by subst e; simp [hb])) (fun hm => nd2.2.2 b hb b (by simp [hm]) rfl)) h1
    · rw [hp]
      exact OwC.row _ ho' hc'
    · rw [hp, hk]
      refine OwL.frame' _ (fun o h5 h6 => hseg.cell o (.inr (by omega))) (fun b hb => hseg.block b (hlt b (by simp [hb])) (fun e => nd1.1 (by subst e; simp [hb])) (fun hm => nd3.2.2 b hm b hb rfl)) h4

theorem Seg.mono {g lo hi : Nat} {fi fj : List Nat} {w w' : World} (h : Seg g lo hi fi w w') (hs : fi ⊆ fj) : Seg g lo hi fj w w' :=
  ⟨h.os, h.tape, h.output, h.size, h.cell, fun b h1 h2 h3 => h.block b h1 h2 (fun hm => h3 (hs hm)), h.unf⟩
theorem take_set_succ {α : Type} (l : List α) (j : Nat) (x : α) (h : j < l.length) : (l.set j x).take (j + 1) = l.take j ++ [x] := by
  rw [List.take_succ_eq_append_getElem (by simpa using h), List.take_set_of_le (Nat.le_refl _)]
  simp
theorem drop_set_succ {α : Type} (l : List α) (j : Nat) (x : α) : (l.set j x).drop (j + 1) = l.drop (j + 1) := by
  rw [List.drop_set_of_lt (by omega)]

theorem okAtom_u8 (b : UInt8) : okAtom (.int .u8 (b.toNat : Int)) := by
  have h := b.toNat_lt
  show (Lit.int .u8 (b.toNat : Int)).wf = true
  simp [Lit.wf, IntKind.min, IntKind.max, IntKind.signed, IntKind.bits]
  omega
def mloop : Nat → Nat → ByteArray → ByteArray
  | 0, _, out => out
  | f + 1, k, out => if k = 0 then out else mloop f (k / 10) (strOfNums [48 + (k : Int) % 10] ++ out)
def mtext (k : Nat) : ByteArray := if k = 0 then ⟨#[109, 48]⟩ else ⟨#[109]⟩ ++ mloop k k .empty
theorem mloop_zero (f : Nat) (out : ByteArray) : mloop f 0 out = out := by cases f <;> simp [mloop]
theorem mloop_step {f k : Nat} (out : ByteArray) (hk : 0 < k) (hf : k ≤ f) : mloop f k out = mloop (f - 1) (k / 10) (strOfNums [48 + (k : Int) % 10] ++ out) := by
  obtain ⟨f, rfl⟩ : ∃ m, f = m + 1 := ⟨f - 1, by omega⟩
  simp [mloop, show k ≠ 0 by omega]

set_option maxRecDepth 100000 in
theorem markText_any (z : Int) (k : Nat) (hz : z = k) (hk : k ≤ 1099511627776) (w : World) :
    Calls Tryz.prog 64 #[.int .i64 z] w fun e w' => e = .returned (.string (mtext k)) ∧ Below w.heap.size w w' := by
  subst hz
  have hcv := fun (u : World) => run_conv1 (P := Tryz.prog) 59 9 5 Tryz.underlying59 Tryz.underlying5 Tryz.underlying9 u
  have hsz := size1
  by_cases h0 : k = 0
  · subst h0
    go_enter Tryz.func64, Tryz.ntmps64
    go_wp2
    go_ret
    exact ⟨rfl, Below.refl _ _⟩
  · have HT := hide (show mtext k = ⟨#[109]⟩ ++ mloop k k .empty from if_neg h0)
    have hpos : (0 : Int) < (k : Int) := by omega
    clear h0
    go_enter Tryz.func64, Tryz.ntmps64
    go_wp2
    go_loopw [0, 3] (fun a o wr => (∃ (j f : Nat) (out : ByteArray), a = .int .i64 j ∧ o = .string out ∧ j ≤ f ∧ out.size + j ≤ k ∧ mloop f j out = mloop k k .empty) ∧ Below w.heap.size w wr) (fun a _ _ => (intOf a).toNat)
    case atStart => exact ⟨⟨k, k, .empty, rfl, rfl, Nat.le_refl _, by simp, rfl⟩, Below.refl _ _⟩
    case round =>
      obtain ⟨⟨j, f, out, rfl, rfl, hf, hsize, hm⟩, hb⟩ := hrel
      have HM := hide hm
      have HB := hide hb
      clear hm hb hpos
      by_cases hj : 0 < j
      · have hj1 : (0 : Int) < (j : Int) := by omega
        have HS := hide (mloop_step out hj hf)
        go_wp2
        go_roundw
        case rel => exact ⟨⟨j / 10, f - 1, _, by go_num, rfl, by omega, by rw [ByteArray.size_append, size1]; omega, by rw [← HS.out]; exact HM.out⟩, HB.out.alloc HB.out.size _⟩
        case measure => simp [intOf]; omega
      · obtain rfl : j = 0 := by omega
        have HZ := hide (mloop_zero f out)
        go_wp2
        go_ret
        exact ⟨ret_str (by rw [HT.out, ← HM.out, HZ.out]), HB.out⟩

/-! ### Lists of plain values -/

def MkStringS (l : List ByteArray) (a b : Nat) : Prop := b = a + l.length ∧ ∀ i (h : i < l.length), l[i] = mtext (a + i)
theorem MkStringS.step {l : List ByteArray} {a k : Nat} (hk : k < l.length) (h : ∀ i (h : i < l.length), i < k → l[i] = mtext (a + i)) :
    ∀ i (h' : i < (l.set k (mtext (a + k))).length), i < k + 1 → (l.set k (mtext (a + k)))[i] = mtext (a + i) := by
  intro i h' hi
  by_cases e : i = k
  · subst e; simp
  · rw [List.getElem_set_ne (by omega)]
    exact h i (by simpa using h') (by omega)

def MkIntS (l : List Int) (a b : Nat) : Prop := b = a + l.length ∧ ∀ i (h : i < l.length), l[i] = ((a + i : Nat) : Int)
theorem MkIntS.step {l : List Int} {a k : Nat} (hk : k < l.length) (h : ∀ i (h : i < l.length), i < k → l[i] = ((a + i : Nat) : Int)) :
    ∀ i (h' : i < (l.set k (((a + k : Nat) : Int))).length), i < k + 1 → (l.set k (((a + k : Nat) : Int)))[i] = ((a + i : Nat) : Int) := by
  intro i h' hi
  by_cases e : i = k
  · subst e; simp
  · rw [List.getElem_set_ne (by omega)]
    exact h i (by simpa using h') (by omega)

def MkByteS (l : List UInt8) (a b : Nat) : Prop := b = a + l.length ∧ ∀ i (h : i < l.length), l[i] = UInt8.ofNat (a + i)
theorem MkByteS.step {l : List UInt8} {a k : Nat} (hk : k < l.length) (h : ∀ i (h : i < l.length), i < k → l[i] = UInt8.ofNat (a + i)) :
    ∀ i (h' : i < (l.set k (UInt8.ofNat (a + k))).length), i < k + 1 → (l.set k (UInt8.ofNat (a + k)))[i] = UInt8.ofNat (a + i) := by
  intro i h' hi
  by_cases e : i = k
  · subst e; simp
  · rw [List.getElem_set_ne (by omega)]
    exact h i (by simpa using h') (by omega)

theorem mloop_size : ∀ (f k : Nat) (out : ByteArray), (mloop f k out).size ≤ out.size + f
  | 0, _, out => by simp [mloop]
  | f + 1, k, out => by
    unfold mloop
    split
    · omega
    · have := mloop_size f (k / 10) (strOfNums [48 + (k : Int) % 10] ++ out)
      rw [ByteArray.size_append, size1] at this
      omega
theorem mtext_size (k : Nat) (hk : k ≤ 1099511627776) : (mtext k).size ≤ maxLen := by
  unfold mtext
  split
  · decide
  · have := mloop_size k k .empty
    rw [ByteArray.size_append]
    have e : (ByteArray.mk #[109]).size = 1 := rfl
    have e2 : ByteArray.empty.size = 0 := rfl
    unfold maxLen
    omega

set_option maxRecDepth 100000 in
set_option maxHeartbeats 400000 in
theorem markStringS_any (l : List ByteArray) (A : Option Addr) (n c : Nat) (fp : List Nat) (lo : Nat) (z : Int) (k0 : Nat) (w : World) (hz : z = k0) (h : Ow w (.s 1 l.length (l.flatMap strC)) (.slice A n c) fp) (hn : New w fp lo) (hb : k0 + l.length ≤ 1099511627776) :
    Calls Tryz.prog 47 #[.slice A n c, .int .i64 z] w fun e w' => ∃ (l' : List ByteArray), e = .returned (.int .i64 ((k0 + l.length : Nat) : Int)) ∧ l'.length = l.length ∧ Ow w' (.s 1 l'.length (l'.flatMap strC)) (.slice A n c) fp ∧ MkStringS l' k0 (k0 + l.length) ∧ Touch fp w w' := by
  subst hz
  obtain ⟨rfl, hc, hm⟩ := h.nlen
  unfold maxLen at hm
  go_enter Tryz.func47, Tryz.ntmps47
  go_wp2
  go_loopw [1, 5] (fun a i wr => (∃ (j : Nat) (lj : List ByteArray), j ≤ l.length ∧ lj.length = l.length ∧ a = .int .i64 ((k0 + j : Nat) : Int) ∧ i = .int .i64 (j : Nat) ∧ Ow wr (.s 1 lj.length (lj.flatMap strC)) (.slice A l.length c) fp ∧ ∀ i (h : i < lj.length), i < j → lj[i] = mtext (k0 + i)) ∧ Touch fp w wr) (fun _ i _ => l.length - (intOf i).toNat)
  case atStart => exact ⟨⟨0, l, Nat.zero_le _, rfl, by simp, rfl, h, fun i h hi => by omega⟩, Touch.refl _ _⟩
  case round =>
    obtain ⟨⟨j, lj, hj, hlj, rfl, rfl, hoj, hmj⟩, ht⟩ := hrel
    have HN := hide (ht.new hn)
    have HT := hide ht
    have HM := hide hmj
    have HL := hide hlj
    clear hmj ht
    by_cases hlt : j < l.length
    · have hlj2 : j < lj.length := by omega
      obtain ⟨g, off, us, fi, rfl, hg, hfi, hgi, hnd, hul, hcs, hov, hput⟩ := hoj.upd strC_len HN.out.nd (i := j) hlj2
      obtain ⟨rfl, hs, rfl⟩ := hov.str
      have p0 := hcs 0 _ rfl
      simp only [Nat.mul_one, Nat.add_zero] at p0
      have hu := unf_frozen (HN.out.uf g hg) (off + j)
      have hgl := HN.out.lt g hg
      have HP := hide hput
      have HC := hide hcs
      clear hcs hput hov hlj hoj
      go_wp2_with fail
      refine (markText_any _ (k0 + j) (by omega) (by omega) _).mono ?_
      rintro e w1 ⟨rfl, hb1⟩
      have hT1 : Touch [] wr w1 := Touch.below hb1
      have p1 := (hb1.cell (p := ⟨g, off + j, none⟩) hgl).trans p0
      have u1 := (hb1.frozen (p := ⟨g, off + j, none⟩) hgl).trans hu
      go_wp2
      go_roundw
      case rel =>
        have hseg : Seg g (off + j * 1) (off + j * 1 + 1) [] wr (w1.setCell ⟨g, off + j, none⟩ (.string (mtext (k0 + j)))) :=
          ((Seg.refl _ _ _ _ _).touch hT1 (by simp) (by simp) hgl).setCell (by omega) (by omega) _
        refine ⟨⟨j + 1, lj.set j (mtext (k0 + j)), by omega, by simpa using HL.out, by go_num, by go_num, ?_, ?_⟩, HT.out.trans (hseg.to_touch hg (by simp))⟩
        · have hx := HP.out _ (mtext (k0 + j)) [.string (mtext (k0 + j))] ⟨[], [], ⟨rfl, mtext_size _ (by omega), rfl⟩, rfl, rfl⟩ (fun i u hi => by
            match i, hi with
            | 0, hi =>
              simp at hi
              subst hi
              simp only [Nat.mul_one, Nat.add_zero]
              exact World.cell?_setCell_same w1 _ _ p1) hseg HN.out.lt
          rw [List.length_set]
          exact hx
        · exact MkStringS.step (by have := HL.out; omega) HM.out
      case measure => simp [intOf]; omega
    · obtain rfl : j = l.length := by omega
      have HO := hide hoj
      clear hoj hlj
      go_wp2
      go_ret
      exact ⟨lj, rfl, HL.out, HO.out, ⟨by rw [HL.out], fun i hi => HM.out i hi (by have := HL.out; omega)⟩, HT.out⟩
set_option maxRecDepth 100000 in
set_option maxHeartbeats 400000 in
theorem markIntS_any (l : List Int) (A : Option Addr) (n c : Nat) (fp : List Nat) (lo : Nat) (z : Int) (k0 : Nat) (w : World) (hz : z = k0) (h : Ow w (.s 1 l.length (l.flatMap intC)) (.slice A n c) fp) (hn : New w fp lo) (hb : k0 + l.length ≤ 1099511627776) :
    Calls Tryz.prog 63 #[.slice A n c, .int .i64 z] w fun e w' => ∃ (l' : List Int), e = .returned (.int .i64 ((k0 + l.length : Nat) : Int)) ∧ l'.length = l.length ∧ Ow w' (.s 1 l'.length (l'.flatMap intC)) (.slice A n c) fp ∧ MkIntS l' k0 (k0 + l.length) ∧ Touch fp w w' := by
  subst hz
  obtain ⟨rfl, hc, hm⟩ := h.nlen
  unfold maxLen at hm
  go_enter Tryz.func63, Tryz.ntmps63
  go_wp2
  go_loopw [1, 5] (fun a i wr => (∃ (j : Nat) (lj : List Int), j ≤ l.length ∧ lj.length = l.length ∧ a = .int .i64 ((k0 + j : Nat) : Int) ∧ i = .int .i64 (j : Nat) ∧ Ow wr (.s 1 lj.length (lj.flatMap intC)) (.slice A l.length c) fp ∧ ∀ i (h : i < lj.length), i < j → lj[i] = ((k0 + i : Nat) : Int)) ∧ Touch fp w wr) (fun _ i _ => l.length - (intOf i).toNat)
  case atStart => exact ⟨⟨0, l, Nat.zero_le _, rfl, by simp, rfl, h, fun i h hi => by omega⟩, Touch.refl _ _⟩
  case round =>
    obtain ⟨⟨j, lj, hj, hlj, rfl, rfl, hoj, hmj⟩, ht⟩ := hrel
    have HN := hide (ht.new hn)
    have HT := hide ht
    have HM := hide hmj
    have HL := hide hlj
    clear hmj ht
    by_cases hlt : j < l.length
    · have hlj2 : j < lj.length := by omega
      obtain ⟨g, off, us, fi, rfl, hg, hfi, hgi, hnd, hul, hcs, hov, hput⟩ := hoj.upd intC_len HN.out.nd (i := j) hlj2
      obtain ⟨rfl, hs, rfl⟩ := hov.int
      have p0 := hcs 0 _ rfl
      simp only [Nat.mul_one, Nat.add_zero] at p0
      have hu := unf_frozen (HN.out.uf g hg) (off + j)
      have hgl := HN.out.lt g hg
      have HP := hide hput
      have HC := hide hcs
      clear hcs hput hov hlj hoj
      go_wp2
      go_roundw
      case rel =>
        have hseg : Seg g (off + j * 1) (off + j * 1 + 1) [] wr (wr.setCell ⟨g, off + j, none⟩ (.int .i64 ((k0 + j : Nat) : Int))) :=
          (Seg.refl _ _ _ _ _).setCell (by omega) (by omega) _
        refine ⟨⟨j + 1, lj.set j (((k0 + j : Nat) : Int)), by omega, by simpa using HL.out, by go_num, by go_num, ?_, ?_⟩, HT.out.trans (by first | exact hseg.to_touch hg (by simp) | (have h := hseg.to_touch hg (by simp); simp only [Intconv] at h; exact h))⟩
        · have hx := HP.out _ (((k0 + j : Nat) : Int)) [.int .i64 ((k0 + j : Nat) : Int)] ⟨[], [], ⟨rfl, by first | exact WalkArith.wf_i64 (by omega) | exact okAtom_u8 _ | simp [okAtom, Lit.wf], rfl⟩, rfl, rfl⟩ (fun i u hi => by
            match i, hi with
            | 0, hi =>
              simp at hi
              subst hi
              simp only [Nat.mul_one, Nat.add_zero]
              exact World.cell?_setCell_same wr _ _ p0) hseg HN.out.lt
          rw [List.length_set]
          exact hx
        · exact MkIntS.step (by have := HL.out; omega) HM.out
      case measure => simp [intOf]; omega
    · obtain rfl : j = l.length := by omega
      have HO := hide hoj
      clear hoj hlj
      go_wp2
      go_ret
      exact ⟨lj, rfl, HL.out, HO.out, ⟨by rw [HL.out], fun i hi => HM.out i hi (by have := HL.out; omega)⟩, HT.out⟩





end Go.Proofs.YtddjgbhkfdpffaaGreatDoor
