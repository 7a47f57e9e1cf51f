/-
  One element of a grown list is written anew, with other inner blocks.
-/
import Derived.Test.YtbjblchhenmgjaaDrawS
set_option linter.unusedVariables false
set_option linter.unusedSimpArgs false
namespace Go.Proofs.Ytbjblchhenmgjaa
open Go.ChangeShapes Go.WideShapes Go.ChangeAt Go.RowKit

theorem OwC.splitK {w : World} : ∀ {l r : List D} {us : List Value} {fp : List Nat}, OwC w (l ++ r) us fp → ∃ u1 u2 f1 f2, us = u1 ++ u2 ∧ fp = f1 ++ f2 ∧ OwC w l u1 f1 ∧ OwC w r u2 f2 ∧ u1.length = l.length
  | [], r, us, fp, h => ⟨[], us, [], fp, rfl, rfl, by simp [OwC], h, rfl⟩
  | d :: l, r, us, fp, h => by
    cases us with
    | nil => exact h.elim
    | cons y us =>
      obtain ⟨f1, f2, h1, h2, rfl⟩ := h
      obtain ⟨u1, u2, g1, g2, rfl, rfl, h3, h4, h5⟩ := OwC.splitK h2
      exact ⟨y :: u1, u2, f1 ++ g1, g2, rfl, by rw [List.append_assoc], ⟨f1, g1, h1, h3, rfl⟩, h4, by simp [h5]⟩
theorem set3 (u1 u2 : List Value) (p q r a b c : Value) : (((u1 ++ ([p, q, r] ++ u2)).set u1.length a).set (u1.length + 1) b).set (u1.length + 1 + 1) c = u1 ++ ([a, b, c] ++ u2) := by
  rw [List.set_append_right _ _ (Nat.le_refl _), List.set_append_right _ _ (by omega), List.set_append_right _ _ (by omega)]
  simp [show u1.length + 1 + 1 - u1.length = 2 by omega]
theorem OwS.putAt {α : Type} {w : World} {B : Nat} {e : TypeId} {f : α → List D} {g n c : Nat} {l1 l2 : List α} {x y : α} {u1 u0 u2 ux : List Value} {f1 f0 f2 fx : List Nat}
    (h : OwS w B e 3 f (.slice (some ⟨g, 0, none⟩) n c) (l1 ++ x :: l2) (u1 ++ (u0 ++ u2)) (f1 ++ (f0 ++ f2)))
    (c1 : OwC w (l1.flatMap f) u1 f1) (c2 : OwC w (l2.flatMap f) u2 f2) (h0 : u0.length = 3) (hx : OwC w (f y) ux fx) (hxl : ux.length = 3) (hn : New w fx B)
    (hfx : ∀ b ∈ fx, b ∈ f0 ∨ (b ∉ f1 ∧ b ∉ f2 ∧ b ≠ g)) :
    OwS (putN w g u1.length ux) B e 3 f (.slice (some ⟨g, 0, none⟩) n c) (l1 ++ y :: l2) (u1 ++ (ux ++ u2)) (f1 ++ (fx ++ f2)) := by
  obtain ⟨p, q, r, rfl⟩ : ∃ p q r, u0 = [p, q, r] := by
    match u0, h0 with
    | [p, q, r], _ => exact ⟨p, q, r, rfl⟩
  obtain ⟨a, b, d, rfl⟩ : ∃ p q r, ux = [p, q, r] := by
    match ux, hxl with
    | [p, q, r], _ => exact ⟨p, q, r, rfl⟩
  have hgr := setN_grown (w0 := w) [a, b, d] u1.length (grown_refl w (some g))
  have hgo := h.out g rfl
  have hg1 : g ∉ f1 := fun hm => hgo (by simp [hm])
  have hg0 : g ∉ f0 := fun hm => hgo (by simp [hm])
  have hg2 : g ∉ f2 := fun hm => hgo (by simp [hm])
  have hgx : g ∉ fx := fun hm => by
    rcases hfx g hm with h | h
    · exact hg0 h
    · exact h.2.2 rfl
  have hnd := h.new.nd
  have hnn : New w (f1 ++ (fx ++ f2)) B := by
    rw [List.nodup_append] at hnd
    obtain ⟨n1, n2, n3⟩ := hnd
    rw [List.nodup_append] at n2
    obtain ⟨n4, n5, n6⟩ := n2
    refine ⟨fun b hb => ?_, List.nodup_append.2 ⟨n1, List.nodup_append.2 ⟨hn.nd, n5, fun b hb b' hb' e => ?_⟩, fun b hb b' hb' e => ?_⟩, fun b hb => ?_⟩
    · simp only [List.mem_append] at hb
      rcases hb with hb | hb | hb
      · exact h.new.fr b (by simp [hb])
      · exact hn.fr b hb
      · exact h.new.fr b (by simp [hb])
    · subst e
      rcases hfx b hb with h | h
      · exact n6 b h b hb' rfl
      · exact h.2.1 hb'
    · subst e
      rcases List.mem_append.1 hb' with hb' | hb'
      · rcases hfx b hb' with h | h
        · exact n3 b hb b (by simp [h]) rfl
        · exact h.1 hb
      · exact n3 b hb b (by simp [hb']) rfl
    · simp only [List.mem_append] at hb
      rcases hb with hb | hb | hb
      · exact h.new.uf b (by simp [hb])
      · exact hn.uf b hb
      · exact h.new.uf b (by simp [hb])
  have hcc : OwC w ((l1 ++ y :: l2).flatMap f) (u1 ++ ([a, b, d] ++ u2)) (f1 ++ (fx ++ f2)) := by
    rw [List.flatMap_append, List.flatMap_cons]
    exact c1.append (hx.append c2)
  have hno : ∀ k, some g = some k → k ∉ f1 ++ (fx ++ f2) := fun k e hm => by
    injection e with e
    subst e
    simp only [List.mem_append] at hm
    rcases hm with hm | hm | hm
    · exact hg1 hm
    · exact hgx hm
    · exact hg2 hm
  obtain rfl : n = (l1 ++ x :: l2).length := by
    obtain ⟨A, c', e⟩ := h.form
    injection e
  have s1 := (h.own.stored u1.length a).1
  have s2 := (s1.stored (u1.length + 1) b).1
  have s3 := (s2.stored (u1.length + 1 + 1) d).1
  rw [set3] at s3
  refine ⟨?_, hcc.grown' hgr hnn.lt hno, hnn.grown hgr hno, fun k e => hno k e⟩
  have hl : (l1 ++ y :: l2).length = (l1 ++ x :: l2).length := by simp
  rw [hl]
  exact s3
theorem New.leftK {w : World} {f1 f2 : List Nat} {lo : Nat} (h : New w (f1 ++ f2) lo) : New w f1 lo :=
  ⟨fun b hb => h.fr b (List.mem_append.2 (.inl hb)), (List.nodup_append.1 h.nd).1, fun b hb => h.uf b (List.mem_append.2 (.inl hb))⟩
theorem New.rightK {w : World} {f1 f2 : List Nat} {lo : Nat} (h : New w (f1 ++ f2) lo) : New w f2 lo :=
  ⟨fun b hb => h.fr b (List.mem_append.2 (.inr hb)), (List.nodup_append.1 h.nd).2.1, fun b hb => h.uf b (List.mem_append.2 (.inr hb))⟩
/-- a slice that is read, with what lies below its elements -/
theorem Ow.srcNew {α : Type} {w : World} {f : α → List D} {k : Nat} {l : List α} {A : Option Addr} {n c lo : Nat} {fp : List Nat} (h : Ow w (.s k l.length (l.flatMap f)) (.slice A n c) fp) (hn : New w fp lo) :
    ∃ us f2, OwC w (l.flatMap f) us f2 ∧ SrcAt w us A n c ∧ f2 ⊆ fp ∧ New w f2 lo := by
  unfold Ow at h
  obtain ⟨hl, A', c', e, _, _, h⟩ := h
  injection e with e1 e2 e3
  subst e1 e2 e3
  rcases h with ⟨h0, rfl⟩ | ⟨h0, g, off, f1, rfl, ho, rfl⟩
  · have hl0 : l = [] := List.eq_nil_of_length_eq_zero h0
    subst hl0
    refine ⟨[], [], by simp [OwC], ?_, by simp, New.nil _ _⟩
    cases A with
    | none => exact .inl ⟨rfl, rfl⟩
    | some ad => exact .inr ⟨ad, rfl, fun j u hu => by simp at hu⟩
  · obtain ⟨us, hu, hc, ho⟩ := ho.cells
    refine ⟨us, f1, ho, .inr ⟨_, rfl, fun j u hj => ?_⟩, fun b hb => List.mem_cons_of_mem _ hb, New.rightK (f1 := [g]) hn⟩
    rw [Addr.add_lit]
    exact hc j u hj
/-- an empty slice with a block of its own, under a lower bound -/
theorem OwS.emptyL {α : Type} (w : World) (B : Nat) (hB : B ≤ w.heap.size) (e : TypeId) (k : Nat) (f : α → List D) : OwS (w.alloc (.cells #[] e)) B e k f (.slice (some ⟨w.heap.size, 0, none⟩) 0 0) [] [] [] :=
  ⟨World.ownsRow_made w #[] 0 hB (by unfold maxLen; omega) (by simp), by simp [OwC], New.nil _ _, fun g h => by simp⟩
/-- a schema whose kids lie in a grown list -/
theorem sp_kids_fin {W : World} {s : Int} {ns : List ByteArray} {ks : List Kind} {V1 V : Value} {f1 fi : List Nat} {us : List Value} {lo : Nat} {e : TypeId} (hs : (Lit.int .i64 s).wf = true) (o1 : Ow W (.s 1 ns.length (ns.flatMap strC)) V1 f1) (n1 : New W f1 lo)
    (h : OwS W lo e 3 Kind.cells V ks us fi) (hd : ∀ g ∈ f1, V.ownBlock ≠ some g ∧ g ∉ fi) : ∃ fq, OwC W (Kind.mk s ns ks).cells [.int .i64 s, V1, V] fq ∧ New W fq lo ∧ ∀ b ∈ fq, b ∈ f1 ∨ V.ownBlock = some b ∨ b ∈ fi := by
  obtain ⟨p2, o2, n2, s2⟩ := h.toOw'
  refine ⟨f1 ++ p2, OwC.mKind (x := Kind.mk s ns ks) hs o1 o2, ⟨n1.fr.app n2.fr, List.nodup_append.2 ⟨n1.nd, n2.nd, fun a ha b hb e => ?_⟩, fun g hg => ?_⟩, fun b hb => ?_⟩
  · subst e
    rcases s2 a hb with h | h
    · exact (hd a ha).1 h
    · exact (hd a ha).2 h
  · rcases List.mem_append.1 hg with hg | hg
    · exact n1.uf g hg
    · exact n2.uf g hg
  · rcases List.mem_append.1 hb with hb | hb
    · exact .inl hb
    · exact .inr (s2 b hb)
/-- a schema whose names lie in a grown list -/
theorem sp_names_fin {W : World} {s : Int} {ns : List ByteArray} {ks : List Kind} {V V2 : Value} {f2 : List Nat} {us : List Value} {lo : Nat} {e : TypeId} (hs : (Lit.int .i64 s).wf = true) (o2 : Ow W (.s 3 ks.length (ks.flatMap Kind.cells)) V2 f2) (n2 : New W f2 lo)
    (h : OwS W lo e 1 strC V ns us []) (hd : ∀ g ∈ f2, V.ownBlock ≠ some g) : ∃ fq, OwC W (Kind.mk s ns ks).cells [.int .i64 s, V, V2] fq ∧ New W fq lo ∧ ∀ b ∈ fq, V.ownBlock = some b ∨ b ∈ f2 := by
  obtain ⟨p1, o1, n1, s1⟩ := h.toOw'
  refine ⟨p1 ++ f2, OwC.mKind (x := Kind.mk s ns ks) hs o1 o2, ⟨n1.fr.app n2.fr, List.nodup_append.2 ⟨n1.nd, n2.nd, fun a ha b hb e => ?_⟩, fun g hg => ?_⟩, fun b hb => ?_⟩
  · subst e
    rcases s1 a ha with h | h
    · exact hd a hb h
    · cases h
  · rcases List.mem_append.1 hg with hg | hg
    · exact n1.uf g hg
    · exact n2.uf g hg
  · rcases List.mem_append.1 hb with hb | hb
    · rcases s1 b hb with h | h
      · exact .inl h
      · cases h
    · exact .inr hb
/-- the cells of a grown list -/
theorem OwS.cellAt {α : Type} {w : World} {B : Nat} {e : TypeId} {k : Nat} {f : α → List D} {g n c : Nat} {l : List α} {us : List Value} {fi : List Nat} (h : OwS w B e k f (.slice (some ⟨g, 0, none⟩) n c) l us fi) {j : Nat} {u : Value} (hj : us[j]? = some u) :
    w.cell? ⟨g, j, none⟩ = some u ∧ w.frozen? ⟨g, j, none⟩ = false ∧ g < w.heap.size := by
  rcases h.own.2 with ⟨hx, hn⟩ | ⟨g', cap, cur, hv, hB, hg, h1, h2, h3, h4⟩
  · cases hx
  · injection hv with e1 e2 e3
    injection e1 with e1
    injection e1 with e1
    subst e1
    have hrow : Row w g e cur.toList := by simpa [Row] using hg
    refine ⟨?_, hrow.frozen j, hrow.lt⟩
    rw [hrow.cell]
    rw [← h4, List.getElem?_take] at hj
    split at hj
    · exact hj
    · cases hj
/-- a grown list that is not empty has a block -/
theorem OwS.block {α : Type} {w : World} {B : Nat} {e : TypeId} {k : Nat} {f : α → List D} {A : Option Addr} {n c : Nat} {l : List α} {us : List Value} {fi : List Nat} (h : OwS w B e k f (.slice A n c) l us fi) (hl : 0 < l.length) :
    ∃ g, A = some ⟨g, 0, none⟩ ∧ n = l.length ∧ B ≤ g ∧ g < w.heap.size := by
  rcases h.own.2 with ⟨hx, hn⟩ | ⟨g', cap, cur, hv, hB, hg, h1, h2, h3, h4⟩
  · omega
  · injection hv with e1 e2 e3
    have hrow : Row w g' e cur.toList := by simpa [Row] using hg
    exact ⟨g', e1, e2, hB, hrow.lt⟩
theorem sp_split_at {α : Type} : ∀ (l : List α) (i : Nat), i < l.length → ∃ l1 y l2, l = l1 ++ y :: l2 ∧ l1.length = i
  | x :: l, 0, _ => ⟨[], x, l, rfl, rfl⟩
  | x :: l, i + 1, h => by
    obtain ⟨l1, y, l2, e, hl⟩ := sp_split_at l i (by simpa using h)
    exact ⟨x :: l1, y, l2, by rw [e]; rfl, by simp [hl]⟩
end Go.Proofs.Ytbjblchhenmgjaa
