/-
  One byte more, at a step of a region that draws its order. The bytes of an event: EventPack of the program and of the reference. An event read back from its bytes: plain definitions.
-/
import Derived.Deep.AppendLies
import Derived.Deep.RegionHeld3
import Derived.Test.YtnaecdoeldoipaaGreatDoorKTxt
import Derived.Test.YtnaecdoeldoipaaGreatDoorKPackU
import Derived.Test.YtnaecdoeldoipaaGreatDoorKRead
set_option linter.unusedVariables false
set_option linter.unusedSimpArgs false
namespace Go.Proofs.YtnaecdoeldoipaaGreatDoor
open Go.ChangeShapes Go.WideShapes Go.ChangeAt Go.RowKit

section
variable {ops : Array Oper} {o : Oper} {a : Act} {K : Act → World → Prop} {Q : Exit → Act → World → Prop} {E : Prop} (w : World)
end
/-- A world behind the draw of a region, and perhaps one new row. -/
def Aft (u W : World) : Prop := W = u.drew ∨ ∃ o, W = u.drew.alloc o
theorem Aft.size {u W : World} (h : Aft u W) : u.heap.size ≤ W.heap.size := by
  rcases h with rfl | ⟨o, rfl⟩
  · exact Nat.le_refl _
  · rw [World.size_alloc]; exact Nat.le_succ _
theorem Aft.below {u W w' : World} (h : Aft u W) (k : Below W.heap.size W w') : Below u.heap.size u w' := by
  have h0 : Below u.heap.size u W := by
    rcases h with rfl | ⟨o, rfl⟩
    · exact ⟨rfl, rfl, rfl, Nat.le_refl _, fun _ _ => rfl⟩
    · exact (Below.refl u.heap.size u).drew.alloc (Nat.le_refl _) o
  exact h0.trans (k.mono h.size)
end Go.Proofs.YtnaecdoeldoipaaGreatDoor
set_option linter.unusedVariables false
set_option linter.unusedSimpArgs false
namespace Go.Proofs.YtnaecdoeldoipaaGreatDoor
open Go.ChangeShapes Go.WideShapes Go.ChangeAt Go.RowKit

def Event.bytes (x : Event) : List UInt8 := short x.type_ ++ [UInt8.ofNat x.version.toNat] ++ x.body.pack
noncomputable def Event.packed (x : Event) : List UInt8 := if tb x.ok = true then x.bytes else []
end Go.Proofs.YtnaecdoeldoipaaGreatDoor
set_option linter.unusedVariables false
set_option linter.unusedSimpArgs false
namespace Go.Proofs.YtnaecdoeldoipaaGreatDoor
open Go.ChangeShapes Go.WideShapes Go.ChangeAt Go.RowKit

def pOne : List UInt8 → Option (Int × List UInt8)
  | [] => none
  | x :: r => some ((x.toNat : Int), r)
def pShort : List UInt8 → Option (ByteArray × List UInt8)
  | [] => none
  | x :: r => if x.toNat ≤ r.length then some (ba (r.take x.toNat), r.drop x.toNat) else none
/-- a size by sevens, of so many bytes at most; strict: it must end -/
def pSev (strict : Bool) : Nat → Nat → Nat → List UInt8 → Option (Nat × List UInt8)
  | 0, _, n, l => if strict then none else some (n, l)
  | _ + 1, _, _, [] => none
  | k + 1, p, n, x :: l => if x.toNat < 128 then some (n + x.toNat % 128 * p, l) else pSev strict k (p * 128) (n + x.toNat % 128 * p) l
def signed (s : UInt8) (n : Nat) : Int := if s.toNat = 1 then -(n : Int) else (n : Int)
/-- so many kids, with names if it is a form; what is there already stands ahead -/
def pKids (rd : List UInt8 → Option (Tree × List UInt8)) (form : Bool) : Nat → List ByteArray → List Tree → List UInt8 → Option (List ByteArray × List Tree × List UInt8)
  | 0, ns, ks, l => some (ns, ks, l)
  | n + 1, ns, ks, l =>
    match (if form then pShort l else some (.empty, l)) with
    | none => none
    | some (s, l1) =>
      match rd l1 with
      | none => none
      | some (t, l2) => pKids rd form n (if form then ns ++ [s] else ns) (ks ++ [t]) l2
def pMany (rd : List UInt8 → Option (Tree × List UInt8)) (s : Nat) : List UInt8 → Option (Tree × List UInt8)
  | [] => none
  | n :: l => (pKids rd (s == 5) n.toNat [] [] l).map (fun p => (.mk (s : Int) 0 .empty p.1 p.2.1, p.2.2))
/-! ### What is packed is read back -/
/-! ### What is read is not larger than what was there -/
/-! ### What EventUnpack answers -/
def Event.from (l : List UInt8) (x : Event) : Prop := x.ok ∧ x.bytes = l ∧ l.length ≤ 9000
end Go.Proofs.YtnaecdoeldoipaaGreatDoor
