/-
  Layer 7 (pen), plain: what Apply, Print, Parts and the colours compute. No program in sight.
-/
import Derived.Test.YtcempbgbdlmjfaaDoorBase3
namespace Go.Proofs.YtcempbgbdlmjfaaDoor
open Go.RowKit

structure Pn where
  fg : Int
  bg : Int
  fl : Int

def isCol (c : Int) : Bool := decide (0 ≤ c ∧ c ≤ 256) || decide (16777216 ≤ c ∧ c < 33554432)
def sanePn (p : Pn) : Bool := isCol p.fg && (isCol p.bg && decide (0 ≤ p.fl ∧ p.fl ≤ 511))
def flOff (x m : Int) : Int := bits .andNot .i64 x m
def flOn (x m : Int) : Int := bits .or .i64 x m
def swT : List Int := [0, 1, 2, 4, 8, 16, 0, 32, 64, 128]
def unT : List Int := [3, 4, 264, 16, 0, 32, 64, 128]
def codesT : List Int := [1, 2, 3, 4, 5, 7, 8, 9, 21]
def oneF (p : Pn) (q : List Int) : Pn :=
  let n := q.getD 0 0
  if n = 0 ∨ n = -1 then ⟨0, 0, 0⟩
  else if n = 4 ∧ 1 < q.length ∧ q.getD 1 0 = 0 then ⟨p.fg, p.bg, flOff p.fl 264⟩
  else if n = 21 ∨ n = 4 ∧ 1 < q.length ∧ q.getD 1 0 = 2 then ⟨p.fg, p.bg, flOn (flOff p.fl 8) 256⟩
  else if n = 4 then ⟨p.fg, p.bg, flOn (flOff p.fl 256) 8⟩
  else if 1 ≤ n ∧ n ≤ 9 then ⟨p.fg, p.bg, flOn p.fl (swT.getD n.toNat 0)⟩
  else if 22 ≤ n ∧ n ≤ 29 then ⟨p.fg, p.bg, flOff p.fl (unT.getD (n - 22).toNat 0)⟩
  else if 30 ≤ n ∧ n ≤ 37 then ⟨n - 30 + 1, p.bg, p.fl⟩
  else if n = 39 then ⟨0, p.bg, p.fl⟩
  else if 40 ≤ n ∧ n ≤ 47 then ⟨p.fg, n - 40 + 1, p.fl⟩
  else if n = 49 then ⟨p.fg, 0, p.fl⟩
  else if 90 ≤ n ∧ n ≤ 97 then ⟨n - 90 + 8 + 1, p.bg, p.fl⟩
  else if 100 ≤ n ∧ n ≤ 107 then ⟨p.fg, n - 100 + 8 + 1, p.fl⟩
  else p
def bndF (n : Int) : Int := max 0 (min n 255)
def rgbF (r g b : Int) : Int := 16777216 + bndF r * 65536 + bndF g * 256 + bndF b
def isByteF (n : Int) : Bool := decide (0 ≤ n ∧ n ≤ 255)
def colF (l : List Int) : Int × Nat :=
  if 2 ≤ l.length ∧ l.getD 0 0 = 5 ∧ isByteF (l.getD 1 0) = true then (l.getD 1 0 + 1, 2)
  else if 4 ≤ l.length ∧ l.getD 0 0 = 2 ∧ isByteF (l.getD 1 0) = true ∧ isByteF (l.getD 2 0) = true ∧ isByteF (l.getD 3 0) = true then (rgbF (l.getD 1 0) (l.getD 2 0) (l.getD 3 0), 4)
  else (0, 0)
def innerF (l : List Int) : List Int := if l.getD 0 0 ≠ 2 ∨ l.length < 5 then l else [2, l.getD 2 0, l.getD 3 0, l.getD 4 0]
def followF (l : List (List Int)) : List Int := (l.take 4).map fun q => q.headD (-1)
/-- the colour that a parameter 38 or 48 tells, and how many parameters behind it that takes -/
def tells (q : List Int) (l : List (List Int)) : Int × Nat := if 1 < q.length then ((colF (innerF q.tail)).1, 0) else colF (followF l)
def setCol (p : Pn) (n c : Int) : Pn := if c = 0 then p else if n = 38 then ⟨c, p.bg, p.fl⟩ else ⟨p.fg, c, p.fl⟩
def apGo : Nat → Pn → List (List Int) → Pn
  | 0, p, _ => p
  | _, p, [] => p
  | f+1, p, q :: l =>
    if q = [] then apGo f p l
    else if q.getD 0 0 ≠ 38 ∧ q.getD 0 0 ≠ 48 then apGo f (oneF p q) l
    else if (tells q l).1 = 0 ∧ ¬ 1 < q.length then p
    else apGo f (setCol p (q.getD 0 0) (tells q l).1) (l.drop (tells q l).2)
def applyF (p : Pn) (l : List (List Int)) : Pn := if sanePn p = false ∨ l = [] then ⟨0, 0, 0⟩ else apGo l.length p l
def partsF (c : Int) : Int × Int × Int × Int :=
  if c = 0 then (0, 0, 0, 0)
  else if 1 ≤ c ∧ c ≤ 256 then (1, c - 1, 0, 0)
  else if isCol c = true then (2, c / 65536 % 256, c / 256 % 256, c % 256)
  else (3, 0, 0, 0)
def shownF (c base : Int) : List (List Int) :=
  if (partsF c).1 = 1 ∧ (partsF c).2.1 < 8 then [[base + (partsF c).2.1]]
  else if (partsF c).1 = 1 ∧ (partsF c).2.1 < 16 then [[base + 60 + (partsF c).2.1 - 8]]
  else if (partsF c).1 = 1 then [[base + 8], [5], [(partsF c).2.1]]
  else if (partsF c).1 = 2 then [[base + 8], [2], [(partsF c).2.1], [(partsF c).2.2.1], [(partsF c).2.2.2]]
  else []
def flagsF (fl : Int) : List (List Int) := (List.range 9).filterMap fun i => if bits .and .i64 fl (2 ^ i) ≠ 0 then some [codesT.getD i 0] else none
def printF (p : Pn) : List (List Int) := if sanePn p = false then [] else [[0]] ++ flagsF p.fl ++ shownF p.fg 30 ++ shownF p.bg 40
end Go.Proofs.YtcempbgbdlmjfaaDoor
