/- Scans over a text whose characters have classes: plain words. No condition but those written. -/
import Derived.Test.YtdojcgefiekleaaDoorSyp
namespace Go.Proofs.YtdojcgefiekleaaDoor
open Go.RowKit

/-- The class at an index of a text. -/
def Tb.at_ (T : Tb) (L : List Nat) (i : Nat) : Int := T.cl ((L.getD i 0 : Nat) : Int)
section
variable (T : Tb)
/-- How many characters a comment's rest has, its end with it. -/
def cmtN : List Nat → Nat
  | [] => 0
  | c :: r => if T.cl (c : Int) = 9 then 1 else cmtN r + 1
/-- How many characters are separators from here; inside: a comment is open. -/
def gapN : Bool → List Nat → Nat
  | _, [] => 0
  | true, c :: r => if T.cl (c : Int) = 9 then gapN false r + 1 else gapN true r + 1
  | false, c :: r => if T.cl (c : Int) = 8 then gapN true r + 1 else
      if T.cl (c : Int) = 3 ∨ T.cl (c : Int) = 9 ∨ T.cl (c : Int) = 0 ∨ T.cl (c : Int) = 10 then gapN false r + 1 else 0
/-- How many characters a name has from here. -/
def nameN : List Nat → Nat
  | [] => 0
  | c :: r => if T.cl (c : Int) = 7 then (match r with | [] => 1 | _ :: r' => nameN r' + 2) else
      if T.cl (c : Int) = 1 ∨ T.cl (c : Int) = 2 ∨ T.cl (c : Int) = 10 then nameN r + 1 else 0
/-- How many characters a string has behind its quote q, if it ends. -/
def quoN (q : Nat) : List Nat → Option Nat
  | [] => none
  | c :: r => if T.cl (c : Int) = 7 then (match r with | [] => none | _ :: r' => (quoN q r').map (· + 2)) else
      if c = q then some 1 else (quoN q r).map (· + 1)
def cmtA (L : List Nat) (i : Nat) : Nat := i + 1 + cmtN T (L.drop (i + 1))
def gapA (L : List Nat) (i : Nat) : Nat := i + gapN T false (L.drop i)
def nameA (L : List Nat) (i : Nat) : Nat := i + nameN T (L.drop i)
def quoA (L : List Nat) (i : Nat) : Option Nat := (quoN T (L.getD i 0) (L.drop (i + 1))).map (· + (i + 1))
/-- The first of the prefixes that stand ahead of an index. -/
def preA (L : List Nat) : Nat → Nat
  | 0 => 0
  | i + 1 => if T.at_ L i = 10 then preA L i else i + 1
end
/-- What a move answers: an index, or a fault and where. -/
abbrev Ans := Nat × Int × Int
section
variable (T : Tb)
/-- Forward over one expression: the fuel, the lists that are open (the innermost first), the index. ErrEnd 5?, see the walk. -/
def fwd (eEnd eForm eDepth : Int) (L : List Nat) : Nat → List Nat → Nat → Ans
  | 0, _, _ => (0, 0, 0)
  | f + 1, opens, i =>
      let at_ := gapA T L i
      if at_ = L.length then (0, eEnd, ((opens.head?.getD at_ : Nat) : Int)) else
      if T.at_ L at_ = 5 then
        match opens with
        | [] => (0, eForm, (at_ : Int))
        | o :: rest => if ((L.getD at_ 0 : Nat) : Int) ≠ T.mate ((L.getD o 0 : Nat) : Int) then (0, eForm, (at_ : Int)) else
            if rest = [] then (at_ + 1, 0, 0) else fwd eEnd eForm eDepth L f rest (at_ + 1)
      else if T.at_ L at_ = 4 then
        if 200 ≤ opens.length then (0, eDepth, (at_ : Int)) else fwd eEnd eForm eDepth L f (at_ :: opens) (at_ + 1)
      else if T.at_ L at_ = 6 then
        match quoA T L at_ with
        | none => (0, eEnd, (at_ : Int))
        | some e => if opens = [] then (e, 0, 0) else fwd eEnd eForm eDepth L f opens e
      else if opens = [] then (nameA T L at_, 0, 0) else fwd eEnd eForm eDepth L f opens (nameA T L at_)
end
/-- A level of lists: the delimiter, where it begins with its prefixes, the last expression in it (-1: none). -/
abbrev Lvl := Int × Int × Int
section
variable (T : Tb)
/-- Backward: the fuel, the levels (the innermost first; the top level is given apart: its last expression, its barrier), the index. -/
def bck (eEnd eForm eDepth eState : Int) (L : List Nat) : Nat → List Lvl → Int → Int → Nat → Ans
  | 0, _, _, _, _ => (0, 0, 0)
  | f + 1, S, top, bar, i =>
      if L.length ≤ i then
        match S with
        | [] => if 0 ≤ top then (top.toNat, 0, 0) else if 0 ≤ bar then (0, eForm, bar) else (0, eEnd, 0)
        | x :: _ => if 0 ≤ x.2.2 then (x.2.2.toNat, 0, 0) else (0, eForm, x.1)
      else
      let k := T.at_ L i
      let said (v : Int) (j : Nat) : Ans := match S with
        | [] => bck eEnd eForm eDepth eState L f [] v bar j
        | x :: r => bck eEnd eForm eDepth eState L f ((x.1, x.2.1, v) :: r) top bar j
      if k = 3 ∨ k = 9 ∨ k = 0 ∨ k = 10 then bck eEnd eForm eDepth eState L f S top bar (i + 1) else
      if k = 8 then
        if cmtA T L i = L.length ∧ T.at_ L (cmtA T L i - 1) ≠ 9 then (0, eState, (i : Int)) else bck eEnd eForm eDepth eState L f S top bar (cmtA T L i)
      else if k = 6 then
        match quoA T L i with
        | none => (0, eState, (i : Int))
        | some e => said (preA T L i : Int) e
      else if k = 4 then
        if 200 ≤ S.length then (0, eDepth, (i : Int)) else bck eEnd eForm eDepth eState L f (((i : Int), (preA T L i : Int), -1) :: S) top bar (i + 1)
      else if k = 5 then
        match S with
        | [] => bck eEnd eForm eDepth eState L f [] (-1) (i : Int) (i + 1)
        | x :: r => if ((L.getD i 0 : Nat) : Int) ≠ T.mate ((L.getD x.1.toNat 0 : Nat) : Int) then bck eEnd eForm eDepth eState L f [] (-1) (i : Int) (i + 1) else
            match r with
            | [] => bck eEnd eForm eDepth eState L f [] x.2.1 bar (i + 1)
            | y :: r' => bck eEnd eForm eDepth eState L f ((y.1, y.2.1, x.2.1) :: r') top bar (i + 1)
      else said (preA T L i : Int) (nameA T L i)
end
end Go.Proofs.YtdojcgefiekleaaDoor
