/-
  Commands read, plain: what the readers say of bytes.
-/
import Derived.Test.YtdkcccigmejikaaCmQ
set_option linter.unusedVariables false
set_option linter.unusedSimpArgs false
set_option maxRecDepth 20000
namespace Go.Proofs.Ytdkcccigmejikaa
open Go.RowKit

/-- A list's number at a place. -/
def nth (L : List Int) (k : Nat) : Int := L[k]?.getD 0
/-- The command that bytes seem to say (kinds up to `lim`), what is left, whether it failed. -/
def parseC (lim : Nat) (B : List UInt8) : Cm × List UInt8 × Bool :=
  let k := rdSm lim B false
  let h := rdIs 5 k.2.1 k.2.2
  let c : Cm := ⟨k.1, nth h.1 0, nth h.1 1, nth h.1 2, nth h.1 3, nth h.1 4, [], 0, 0, 0, 0, 0, 0, 0, 0, 0, 0, 0, 0, 0, 0, 0, 0⟩
  if k.1 = 1 then
    let m := rdSm 16 h.2.1 h.2.2
    let l := rdIs m.1 m.2.1 m.2.2
    let n := rdIs 11 l.2.1 l.2.2
    ({ c with L := l.1, x0 := nth n.1 0, x1 := nth n.1 1, x2 := nth n.1 2, x3 := nth n.1 3, x4 := nth n.1 4, x5 := nth n.1 5, x6 := nth n.1 6, x7 := nth n.1 7, x8 := nth n.1 8, x9 := nth n.1 9, x10 := nth n.1 10 }, n.2)
  else if k.1 = 15 then
    let f := rdIs 3 h.2.1 h.2.2
    ({ c with f1 := nth f.1 0, f2 := nth f.1 1, f3 := nth f.1 2 }, f.2)
  else (c, h.2)
end Go.Proofs.Ytdkcccigmejikaa
