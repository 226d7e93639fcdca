/- Plain functions that say what journals answer. -/
import Derived.Test.YtoghgjobfcnneaaDkPlain
namespace Go.Proofs.Ytoghgjobfcnneaa
open Go.RowKit
def byteJ (s : ByteArray) (i : Nat) : Nat := (s.data.toList.getD i 0).toNat
def toldJ (s : ByteArray) (i : Nat) : Nat := byteJ s i + 256 * byteJ s (i + 1) + 65536 * byteJ s (i + 2) + 16777216 * byteJ s (i + 3)
def numJ (n : Nat) : ByteArray := bs [UInt8.ofNat n, UInt8.ofNat (n / 256), UInt8.ofNat (n / 65536), UInt8.ofNat (n / 16777216)]
def secJ (k : UInt8) (s : ByteArray) : ByteArray := bs ([k] ++ s.data.toList ++ List.replicate (63 - s.size) 0)
def partsJ (n : Nat) : Nat := (n + 62) / 63
def secAt (kept : List ByteArray) (i : Nat) : ByteArray := kept.getD i (bs [])
/-- the bytes of a text's parts: from sector i on, so many; none if one is none -/
def piecesJ (kept : List ByteArray) : Nat → Nat → Option (List UInt8)
  | _, 0 => some []
  | i, n + 1 => if byteJ (secAt kept i) 0 = 80 then match piecesJ kept (i + 1) n with
      | some l => some ((secAt kept i).data.toList.drop 1 ++ l)
      | none => none
    else none
def textJ (kept : List ByteArray) (i used : Nat) : Option (ByteArray × Nat) :=
  if byteJ (secAt kept i) 0 = 84 then
    if toldJ (secAt kept i) 1 ≤ 2000 ∧ (partsJ (toldJ (secAt kept i) 1) : Int) ≤ (used : Int) - i - 1 then match piecesJ kept (i + 1) (partsJ (toldJ (secAt kept i) 1)) with
      | some l => some (bs (l.take (toldJ (secAt kept i) 1)), i + 1 + partsJ (toldJ (secAt kept i) 1))
      | none => none
    else none
  else none
/-- a head: its turn, how many sectors are used -/
def headOk (kept : List ByteArray) (t : Int) (i : Nat) : Bool :=
  decide (byteJ (secAt kept i) 0 = 72) && decide (t < (toldJ (secAt kept i) 1 : Int)) && decide (toldJ (secAt kept i) 1 % 2 = i) && decide (2 ≤ toldJ (secAt kept i) 5) && decide (toldJ (secAt kept i) 5 ≤ kept.length)
def headStep (kept : List ByteArray) (i : Nat) (p : Int × Nat) : Int × Nat := if headOk kept p.1 i = true then ((toldJ (secAt kept i) 1 : Int), toldJ (secAt kept i) 5) else p
def headsJ (kept : List ByteArray) : Nat → Int × Nat
  | 0 => (-1, 0)
  | n + 1 => headStep kept n (headsJ kept n)
def headJ (kept : List ByteArray) : Int × Nat := headsJ kept (min 2 kept.length)
def textsJ (kept : List ByteArray) (used : Nat) : Nat → Nat → Option (List ByteArray)
  | 0, _ => some []
  | f + 1, i => if i < used then match textJ kept i used with
      | some (s, j) => match textsJ kept used f j with
        | some l => some (s :: l)
        | none => none
      | none => none
    else some []
/-- what is on a disk: its turn, how many sectors are used, the texts -/
def loadJ (kept : List ByteArray) : Option (Nat × Nat × List ByteArray) :=
  if (headJ kept).1 < 0 then none else match textsJ kept (headJ kept).2 (headJ kept).2 2 with
    | some l => some ((headJ kept).1.toNat, (headJ kept).2, l)
    | none => none
def openJ (d : Dk) : List ByteArray × Nat := if checkD d = 0 then (match loadJ d.kept with
    | some p => (p.2.2, 0)
    | none => ([], 4)) else ([], checkD d)
def formatJ (n : Int) : Dk × Nat := if n < 4 then (Dk.none, 3) else if 400 < n then (Dk.none, 3) else (⟨secJ 72 (bs ((numJ 0).data.toList ++ (numJ 2).data.toList)) :: List.replicate (n.toNat - 1) blank, []⟩, 0)
/-- the writes of a text's parts, one behind the other: the disk, the way -/
def partS (s : ByteArray) (i : Nat) : ByteArray := secJ 80 (bs ((s.data.toList.drop (63 * i)).take 63))
def writesJ (s : ByteArray) (at_ : Nat) : Nat → Dk × List Dk → Dk × List Dk
  | 0, p => p
  | n + 1, p => (fun q : Dk × List Dk => (putD q.1 (at_ + n : Nat) (partS s n), q.2 ++ [putD q.1 (at_ + n : Nat) (partS s n)])) (writesJ s at_ n p)
def goJ (p : Dk × List Dk) (d : Dk) : Dk × List Dk := (d, p.2 ++ [d])
def allB : Nat → Bool := fun _ => true
def wayJ (kept : List ByteArray) (turn used : Nat) (s : ByteArray) : Dk × List Dk :=
  let p0 := goJ (⟨kept, []⟩, []) (putD ⟨kept, []⟩ used (secJ 84 (numJ s.size)))
  let p1 := writesJ s (used + 1) (partsJ s.size) p0
  let p2 := goJ p1 (keepD allB p1.1)
  let p3 := goJ p2 (putD p2.1 ((turn + 1) % 2 : Nat) (secJ 72 (bs ((numJ (turn + 1)).data.toList ++ (numJ (used + 1 + partsJ s.size)).data.toList))))
  goJ p3 (keepD allB p3.1)
def appendJ (d : Dk) (s : ByteArray) : Dk × List Dk × Nat :=
  if checkD d = 0 then if s.size ≤ 2000 then match loadJ d.kept with
    | some p => if p.2.1 + 1 + partsJ s.size ≤ d.kept.length then ((wayJ d.kept p.1 p.2.1 s).1, (wayJ d.kept p.1 p.2.1 s).2, 0) else (Dk.none, [], 8)
    | none => (Dk.none, [], 4)
    else (Dk.none, [], 2)
  else (Dk.none, [], checkD d)
end Go.Proofs.Ytoghgjobfcnneaa
