/-
  The reference's reader of trees: text.
-/
import Derived.Test.YtnaecdoeldoipaaGreatDoorTrS1
set_option linter.unusedVariables false
set_option linter.unusedSimpArgs false
namespace Go.Proofs.YtnaecdoeldoipaaGreatDoor
open Go.ChangeShapes Go.WideShapes Go.ChangeAt Go.RowKit

def TextOutS (g : Nat) (s : ByteArray) (l : List UInt8) (w : World) (e : Ending) (w' : World) : Prop :=
  ∃ (x : ByteArray) (l' : List UInt8) (bad' : Bool), e = .returned (.string x) ∧ x.size ≤ 10000 ∧ RdK w' g s 0 l' bad' ∧ TextTaken l false x l' bad' ∧ (x.size + l'.length ≤ l.length ∧ (bad' = false → x.size + 2 + l'.length ≤ l.length)) ∧ w.grownBy w' (some g)
theorem drop_split (s : ByteArray) (a b : Nat) (hab : a ≤ b) (hb : b ≤ s.size) : (bl s).drop a = bl (s.extract a b) ++ (bl s).drop b := by
  rw [sub_bl]
  have h := (List.take_append_drop (b - a) ((bl s).drop a)).symm
  rw [List.drop_drop, show a + (b - a) = b by omega] at h
  exact h
theorem no34_unique {a b r R : List UInt8} (ha : ∀ c ∈ a, c ≠ 34) (hb : ∀ c ∈ b, c ≠ 34) (hr : r = [] ∨ ∃ q, r = 34 :: q) (h : a ++ r = b ++ 34 :: R) : a = b ∧ r = 34 :: R := by
  induction a generalizing b with
  | nil =>
    cases b with
    | nil => exact ⟨rfl, h⟩
    | cons d b =>
      rcases hr with rfl | ⟨q, rfl⟩
      · cases h
      · simp only [List.nil_append, List.cons_append] at h
        injection h with h _
        exact absurd h.symm (hb d (by simp))
  | cons d a ih =>
    cases b with
    | nil =>
      simp only [List.nil_append, List.cons_append] at h
      injection h with h _
      exact absurd h (ha d (by simp))
    | cons d' b =>
      simp only [List.cons_append] at h
      injection h with h1 h2
      obtain ⟨rfl, h3⟩ := ih (fun c hc => ha c (by simp [hc])) (fun c hc => hb c (by simp [hc])) h2
      exact ⟨by rw [h1], h3⟩
theorem text_law {s : ByteArray} {l l2 l4 : List UInt8} {n p : Nat} {ok ok2 : Bool} (he : Eaten [34] l ok l2) (h2 : l2 = (bl s).drop n) (hnp : n ≤ p) (hp : p ≤ s.size) (ha : ∀ i (h : i < s.size), n ≤ i → i < p → s[i] ≠ 34)
    (hz : ∀ h : p < s.size, s[p] = 34) (he2 : Eaten [34] ((bl s).drop p) ok2 l4) :
    TextTaken l false (s.extract n p) l4 (!ok || !ok2) ∧ ((s.extract n p).size + l4.length ≤ l.length ∧ ((!ok || !ok2) = false → (s.extract n p).size + 2 + l4.length ≤ l.length)) := by
  have hs := drop_split s n p hnp hp
  have hx : ∀ c ∈ bl (s.extract n p), c ≠ 34 := by
    intro c hc
    rw [sub_bl] at hc
    obtain ⟨i, hi, rfl⟩ := List.getElem_of_mem hc
    rw [List.length_take, List.length_drop, bl_len] at hi
    rw [List.getElem_take, List.getElem_drop, bl_get s (n + i) (by omega)]
    exact ha (n + i) (by omega) (by omega) (by omega)
  have hlen := congrArg List.length hs
  rw [List.length_append, bl_len, ← h2] at hlen
  have hle := he.le
  have hle2 := he2.le
  refine ⟨?_, by omega, fun hb => ?_⟩
  · intro y R hy _ e
    obtain ⟨rfl, h3⟩ := he.yes (r := bl y ++ 34 :: R) e
    rw [h2, hs] at h3
    have hr : (bl s).drop p = [] ∨ ∃ q, (bl s).drop p = 34 :: q := by
      by_cases hlt : p < s.size
      · exact .inr ⟨_, by rw [drop_head s p hlt, hz hlt]⟩
      · exact .inl (drop_none s p (by omega))
    obtain ⟨h4, h5⟩ := no34_unique hx hy hr h3
    obtain ⟨rfl, h6⟩ := he2.yes (r := R) h5
    exact ⟨bl_inj h4, rfl, h6⟩
  · cases ok <;> cases ok2 <;> simp at hb
    have a1 := he.lt
    have a2 := he2.lt
    simp only [List.length_cons, List.length_nil] at a1 a2
    omega
set_option maxRecDepth 100000 in
set_option maxHeartbeats 4000000 in
theorem text1_any {s : ByteArray} {l : List UInt8} {g : Nat} {w : World} (h : RdK w g s 0 l false) :
    Calls Tryz.prog 105 #[.pointer (some ⟨g, 0, none⟩)] w (TextOutS g s l w) := by
  have HE := hide (eat1_any h (by omega) ⟨#[34]⟩ (by decide) (by decide))
  clear h
  go_enter Tryz.func105, Tryz.ntmps105
  go_wp2_with fail
  refine HE.out.mono ?_
  rintro e w1 ⟨ok, l2, rfl, h1, he1, hg1⟩
  rw [Bool.false_or] at h1
  obtain ⟨n, hr1, hs, hn1, hnb, hl2⟩ := h1
  have hns : n ≤ s.size := by omega
  have HE1 := hide (show Eaten [34] l ok l2 from he1)
  have HL2 := hide hl2
  have HG1 := hide hg1
  obtain ⟨b1, hb1⟩ : ∃ b, b = !ok := ⟨_, rfl⟩
  have HW1 := hide (show Row w1 g 75 [.string s, .int .i64 (n : Int), .bool b1] from by rw [hb1]; exact hr1)
  have HBB := hide hb1
  clear hr1 he1 hg1 hl2 hnb hn1 hb1 HE
  have c0 := HW1.out.cell 0
  have c1 := HW1.out.cell 1
  have lg := HW1.out.lt
  go_upto_region 3 with fail
  go_loopw [] (fun wr => ∃ p : Nat, n ≤ p ∧ p ≤ s.size ∧ (∀ i (h : i < s.size), n ≤ i → i < p → s[i] ≠ 34) ∧ Row wr g 75 [.string s, .int .i64 (p : Int), .bool b1] ∧ w.grownBy wr (some g)) (fun wr => posMeas wr g s.size)
  case atStart => exact ⟨n, Nat.le_refl _, hns, fun i h h1 h2 => by omega, HW1.out, HG1.out⟩
  case round =>
    clear HW1 HG1 c0 c1 lg
    obtain ⟨p, hp1, hp2, hpa, hrk, hg⟩ := hrel
    have HPA := hide hpa
    have HWk := hide hrk
    have HG := hide hg
    have HME := hide (posMeas_eq hrk)
    have c0 := hrk.cell 0
    have c1 := hrk.cell 1
    have y1 := hrk.frozen 1
    have lg := hrk.lt
    clear hpa hrk hg
    by_cases hlt : p < s.size
    · have hltI : (p : Int) < (s.size : Int) := by omega
      by_cases hq : s[p] = 34
      · have hqI : (s[p].toNat : Int) = 34 := by rw [hq]; rfl
        have HZ := hide (show ∀ h : p < s.size, s[p] = 34 from fun _ => hq)
        clear hq
        have HE2 := hide (fun q => eat1_any (show RdK (wr.drewN q) g s 0 ((bl s).drop p) b1 from ⟨p, HWk.out.drewN q, hs, by omega, (fun _ => hp2), rfl⟩) (by omega) ⟨#[34]⟩ (by decide) (by decide))
        have HGq := hide (fun q => only_drewN HG.out q)
        have hi0 : (0 : Int) ≤ (n : Int) := by omega
        have hi1 : (n : Int) ≤ (p : Int) := by omega
        have hi2 : (p : Int) ≤ (s.size : Int) := by omega
        go_wp2_with fail
        go_quiet (fail)
        go_wp2_with fail
        refine (HE2.out _).mono ?_
        rintro e w5 ⟨ok2, l4, rfl, h5, he5, hg5⟩
        have HR5 := hide h5
        have HG5 := hide (only_trans (HGq.out _) hg5)
        have HE5 := hide (show Eaten [34] ((bl s).drop p) ok2 l4 from he5)
        obtain ⟨n5, hr5, -⟩ := h5
        clear c0 c1 y1 lg he5 hg5 HGq HE2 HWk HG
        have c0 := hr5.cell 0
        have lg := hr5.lt
        have HLW := hide (text_law HE1.out HL2.out hp1 hp2 HPA.out HZ.out HE5.out)
        clear hr5
        go_wp2
        go_ret
        refine ⟨s.extract n p, l4, b1 || !ok2, rfl, by rw [ByteArray.size_extract]; omega, HR5.out, ?_, ?_, HG5.out⟩
        · rw [HBB.out]; exact HLW.out.1
        · rw [HBB.out]; exact HLW.out.2
      · have hqI : ¬ ((s[p].toNat : Int) = 34) := fun e => hq (UInt8.toNat_inj.1 (show s[p].toNat = 34 from by omega))
        have HPS := hide (show ∀ i (h : i < s.size), n ≤ i → i < p + 1 → s[i] ≠ 34 from fun i h h1 h2 => by
          by_cases e : i = p
          · subst e; exact hq
          · exact HPA.out i h h1 (by omega))
        have HW5 := hide (show ∀ q, Row ((wr.drewN q).setCell ⟨g, 1, none⟩ (.int .i64 ((p : Int) + 1))) g 75 [.string s, .int .i64 ((p + 1 : Nat) : Int), .bool b1] from fun q => by rw [show ((p + 1 : Nat) : Int) = (p : Int) + 1 by omega]; exact (HWk.out.drewN q).set 1 _)
        have k4 : IntKind.i64.wrap ((p : Int) + 1) = (p : Int) + 1 := wrapI _ (by omega) (by omega)
        clear hq
        go_wp2_with fail
        go_quiet (fail)
        go_wp2
        go_roundw
        case rel => exact ⟨p + 1, by omega, by omega, HPS.out, HW5.out _, only_setCell (p := ⟨g, 1, none⟩) (only_drewN HG.out _) (.inl rfl) _⟩
        case measure => rw [posMeas_eq (HW5.out _), HME.out]; omega
    · have hltI : ¬ ((p : Int) < (s.size : Int)) := by omega
      have HZ := hide (show ∀ h : p < s.size, s[p] = 34 from fun h => absurd h hlt)
      have HE2 := hide (fun q => eat1_any (show RdK (wr.drewN q) g s 0 ((bl s).drop p) b1 from ⟨p, HWk.out.drewN q, hs, by omega, (fun _ => hp2), rfl⟩) (by omega) ⟨#[34]⟩ (by decide) (by decide))
      have HGq := hide (fun q => only_drewN HG.out q)
      have hi0 : (0 : Int) ≤ (n : Int) := by omega
      have hi1 : (n : Int) ≤ (p : Int) := by omega
      have hi2 : (p : Int) ≤ (s.size : Int) := by omega
      go_wp2_with fail
      go_quiet (fail)
      go_wp2_with fail
      refine (HE2.out _).mono ?_
      rintro e w5 ⟨ok2, l4, rfl, h5, he5, hg5⟩
      have HR5 := hide h5
      have HG5 := hide (only_trans (HGq.out _) hg5)
      have HE5 := hide (show Eaten [34] ((bl s).drop p) ok2 l4 from he5)
      obtain ⟨n5, hr5, -⟩ := h5
      clear c0 c1 y1 lg he5 hg5 HGq HE2 HWk HG
      have c0 := hr5.cell 0
      have lg := hr5.lt
      have HLW := hide (text_law HE1.out HL2.out hp1 hp2 HPA.out HZ.out HE5.out)
      clear hr5
      go_wp2
      go_ret
      refine ⟨s.extract n p, l4, b1 || !ok2, rfl, by rw [ByteArray.size_extract]; omega, HR5.out, ?_, ?_, HG5.out⟩
      · rw [HBB.out]; exact HLW.out.1
      · rw [HBB.out]; exact HLW.out.2
end Go.Proofs.YtnaecdoeldoipaaGreatDoor
