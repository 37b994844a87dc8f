/- Arrays, in plain Lean: cells, intents; what a stripe has; what deeds, harm and mending make of an array. No program in sight. -/
import Derived.Test.YtlbnkoahkfhimaaPure3
import Derived.Test.YtlbnkoahkfhimaaPure5
namespace Go.Proofs.Ytlbnkoahkfhimaa.M
set_option linter.unusedVariables false
structure Arr where
  disks : List (List Bs)
  ints : List (Int × List Bs)
structure Step where
  kind : Int
  n : Int
  m : Int
  deed : Deed
/-- Four disks, three cells each. -/
def Shape (D : List (List Bs)) : Prop := D.length = 4 ∧ ∀ r ∈ D, r.length = 3 ∧ ∀ c ∈ r, c.length ≤ 8
def cellAt (D : List (List Bs)) (d s : Nat) : Bs := (D.getD d []).getD s []
def cellsA (D : List (List Bs)) (s : Nat) : List Bs := D.map (·.getD s [])
def setA (D : List (List Bs)) (d s : Nat) (b : Bs) : List (List Bs) := D.set d ((D.getD d []).set s b)
/-- Whether a stripe's cell is there. -/
def okC (l : List Bs) (s d : Nat) : Bool := (readC (l.getD d []) d s).2 == 0
def badL (l : List Bs) (s : Nat) : List Nat := (List.range l.length).filter fun d => !okC l s d
def badTo (l : List Bs) (s k : Nat) : List Nat := (List.range k).filter fun d => !okC l s d
def goodTo (l : List Bs) (s k : Nat) : List Bs := ((List.range k).filter fun d => okC l s d).map fun d => (readC (l.getD d []) d s).1
def rawTo (l : List Bs) (s k : Nat) : List Bs := (List.range k).map fun d => (readC (l.getD d []) d s).1
def datTo (l : List Bs) (s k : Nat) : List Bs := (List.range k).map fun d => if okC l s d then (readC (l.getD d []) d s).1 else xorAll (goodTo l s l.length)
def dataL (l : List Bs) (s : Nat) : List Bs × Int := if 1 < (badL l s).length then ([], 9) else (datTo l s l.length, 0)
def makeTo (data : List Bs) (s k : Nat) : List Bs := (List.range k).map fun d => cellB d s (data.getD d [])
def makeL (data : List Bs) (s : Nat) : List Bs := makeTo data s data.length
def newD : List (List Bs) := (List.range 4).map fun d => (List.range 3).map fun s => cellB d s zero4
def newA : Arr := ⟨newD, []⟩
/-- Where a block is, of its stripe. -/
def whereN (n : Nat) : Nat := if 3 - n / 3 ≤ n % 3 then n % 3 + 1 else n % 3
def planData (data : List Bs) (d : Deed) : List Bs :=
  let s := d.n.toNat / 3
  let e := if d.kind = 1 then data.set (whereN d.n.toNat) d.data
    else (data.set (whereN d.n.toNat) (data.getD (whereN d.m.toNat) [])).set (whereN d.m.toNat) (data.getD (whereN d.n.toNat) [])
  e.set (3 - s) (xorAll (e.eraseIdx (3 - s)))
def planA (D : List (List Bs)) (d : Deed) : (Int × List Bs) × Int :=
  if wrongI d ≠ 0 then ((0, []), wrongI d)
  else
    let s := d.n.toNat / 3
    if (dataL (cellsA D s) s).2 ≠ 0 then ((0, []), (dataL (cellsA D s) s).2)
    else ((((s : Nat) : Int), makeL (planData (dataL (cellsA D s) s).1 d) s), 0)
def putTo (D : List (List Bs)) (s : Nat) (l : List Bs) (k : Nat) : List (List Bs) := (List.range k).foldl (fun D d => setA D d s (l.getD d [])) D
/-- How many cells so many writes are: for the program, and for the document. -/
def cellsP (many : Int) : Nat := if many = -9223372036854775808 then 4 else (min (max (many - 1) 0) 4).toNat
def cellsR (many : Int) : Nat := (min (max (many - 1) 0) 4).toNat
def writeK (k : Int → Nat) (a : Arr) (i : Int × List Bs) (many : Int) : Arr :=
  ⟨putTo a.disks i.1.toNat i.2 (k many), if 5 < many then [] else if 0 < many then [i] else a.ints⟩
def writeA (a : Arr) (i : Int × List Bs) (many : Int) : Arr := writeK cellsP a i many
def writeR (a : Arr) (i : Int × List Bs) (many : Int) : Arr := writeK cellsR a i many
def mountTo (a : Arr) (k : Nat) : Arr := (a.ints.take k).foldl (fun x i => writeA x i 6) a
def mountA (a : Arr) : Arr := mountTo a a.ints.length
def doA (a : Arr) (d : Deed) : Arr × Int := if (planA a.disks d).2 ≠ 0 then (a, (planA a.disks d).2) else (writeA a (planA a.disks d).1 6, 0)
def readA (D : List (List Bs)) (n : Int) : Bs × Int :=
  if ¬ InB n then ([], 3) else
    let d := whereN n.toNat
    let s := n.toNat / 3
    if (readC (cellAt D d s) d s).2 = 0 then ((readC (cellAt D d s) d s).1, 0)
    else if (dataL (cellsA D s) s).2 ≠ 0 then ([], (dataL (cellsA D s) s).2)
    else ((dataL (cellsA D s) s).1.getD d [], 0)
def blocksTo (D : List (List Bs)) (k : Nat) : List Bs := (List.range k).map fun n => (readA D (n : Nat)).1
/-- The first error that reading the blocks has. -/
def blocksE (D : List (List Bs)) : Int := (((List.range 9).map fun n => (readA D (n : Nat)).2).find? (fun e => e ≠ 0)).getD 0
def blocksA (D : List (List Bs)) : List Bs × Int := if blocksE D = 0 then (blocksTo D 9, 0) else ([], blocksE D)
def mendA (a : Arr) (s : Int) : Arr × Int × Int :=
  if s < 0 ∨ 3 ≤ s then (a, 0, 3) else
    let l := cellsA a.disks s.toNat
    if (dataL l s.toNat).2 ≠ 0 then (a, (badL l s.toNat).length, (dataL l s.toNat).2)
    else (⟨putTo a.disks s.toNat (makeL (dataL l s.toNat).1 s.toNat) 4, a.ints⟩, (badL l s.toNat).length, 0)
def mendsTo (a : Arr) (k : Nat) : Arr := (List.range k).foldl (fun a s => (mendA a (s : Nat)).1) a
def mendNs (a : Arr) (k : Nat) : List Int := (List.range k).map fun s => (mendA (mendsTo a s) (s : Nat)).2.1
def worstTo (D : List (List Bs)) (k : Nat) : Nat := (List.range k).foldl (fun n s => max n (badL (cellsA D s) s).length) 0
def worstA (D : List (List Bs)) : Nat := worstTo D 3
def rotA (a : Arr) (d s at_ : Int) : Arr × Int :=
  if thereB d s = false ∨ at_ < 0 ∨ ((cellAt a.disks d.toNat s.toNat).length : Int) ≤ at_ then (a, 6)
  else (⟨setA a.disks d.toNat s.toNat ((cellAt a.disks d.toNat s.toNat).set at_.toNat ((cellAt a.disks d.toNat s.toNat).getD at_.toNat 0 ^^^ 1)), a.ints⟩, 0)
def goneA (a : Arr) (d : Int) : Arr × Int := if d < 0 ∨ 4 ≤ d then (a, 6) else (⟨a.disks.set d.toNat [[], [], []], a.ints⟩, 0)
def stepK (k : Int → Nat) (a : Arr) (s : Step) : Arr × Int :=
  if s.kind = 1 then doA a s.deed
  else if s.kind = 2 then (if (planA a.disks s.deed).2 ≠ 0 then (a, (planA a.disks s.deed).2) else (mountA (writeK k a (planA a.disks s.deed).1 s.n), 0))
  else if s.kind = 3 then (if s.n < 0 then (a, 6) else rotA a (s.n / 3) (s.n % 3) s.m)
  else if s.kind = 4 then goneA a s.n
  else if s.kind = 5 then ((mendA a s.n).1, (mendA a s.n).2.2)
  else (a, 1)
def stepP (a : Arr) (s : Step) : Arr × Int := stepK cellsP a s
def stepR (a : Arr) (s : Step) : Arr × Int := stepK cellsR a s
/-- The steps, as far as they are played. -/
def playTo (l : List Step) (k : Nat) : Arr := (l.take k).foldl (fun a s => (stepR a s).1) newA
def playA (l : List Step) : Arr := playTo l 100
def againA (a : Arr) (s : Step) : Bool := s.kind == 3 && decide (0 ≤ s.n) && decide (s.n ≤ 11) && !((readC (cellAt a.disks (s.n.toNat / 3) (s.n.toNat % 3)) (s.n / 3) (s.n % 3)).2 == 0)
/-- As long as of each stripe one cell at most is none, and none rots that is none. -/
def gently : Nat → Arr → List Step → Arr
  | 0, a, _ => a
  | _, a, [] => a
  | n + 1, a, s :: l => if againA a s || decide (1 < worstA (stepR a s).1.disks) then a else gently n (stepR a s).1 l
def gentlyA (l : List Step) : Arr := gently 100 newA l
def listsA (l : List Bs) (s : Step) : List (List Bs) :=
  if wrongI s.deed ≠ 0 then [l] else if s.kind = 1 then [doD l s.deed] else if s.kind = 2 then [l, doD l s.deed] else [l]
end Go.Proofs.Ytlbnkoahkfhimaa.M
