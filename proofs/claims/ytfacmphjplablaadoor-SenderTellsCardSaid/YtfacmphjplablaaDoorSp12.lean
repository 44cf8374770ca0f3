
/- A span's text, and what is left of it. No condition. -/
import Derived.Test.YtfacmphjplablaaDoorSp11
import Derived.Lib.ItoaNum
namespace Go.Proofs.YtfacmphjplablaaDoor.Sp
open Go Go.Proofs.YtfacmphjplablaaDoor.Av
set_option linter.unusedVariables false

def txt (n : Int) (c : UInt8) : ByteArray := strL (Lib.decDigits n.toNat ++ [c])
def enc (t : Int) : ByteArray :=
  if clamp t ≤ 99999999 then txt (clamp t) 117
  else if clamp t / 1000 ≤ 99999999 then txt (clamp t / 1000) 109
  else if clamp t / 1000000 ≤ 99999999 then txt (clamp t / 1000000) 83
  else if clamp t / 60000000 ≤ 99999999 then txt (clamp t / 60000000) 77
  else txt (clamp t / 3600000000) 72
def cut (t : Int) : Int := (dec (enc t)).1
end Go.Proofs.YtfacmphjplablaaDoor.Sp
