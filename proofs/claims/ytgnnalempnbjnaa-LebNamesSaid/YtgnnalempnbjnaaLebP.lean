/-
  What leb.get, GetU, GetS and put answer, as plain functions of lists and numbers. No statement is proved here.
-/
import Derived.Test.YtgnnalempnbjnaaWWords
namespace Go.Proofs.Ytgnnalempnbjnaa
open Go.RowKit Go.Proofs.YtgnnalempnbjnaaW.PrintWords
def lastU (c : Int) : Bool := decide (c < 16)
def lastS (half c : Int) : Bool := decide (c < half) || (decide (c < 128) && decide (128 - half ≤ c))
def getL (b : List Int) (bits : Int) (last : Int → Bool) : Nat → Int → Int → Int → Option (Int × Int × Int × Int)
  | 0, _, _, _ => none
  | k+1, n, at_, size =>
    if size < bits then
      if at_ = (b.length : Int) then some (0, 0, 0, 5)
      else if 0 ≤ at_ then
        if at_ < (b.length : Int) then
          if bits ≤ size + 7 then
            if last (rd b at_) = true then
              (if rd b at_ < 128 then some (Go.bits .or .u64 n (IntKind.u64.wrap (IntKind.u64.wrap (Go.bits .and .u8 (rd b at_) 127) * 2 ^ size.toNat)), at_ + 1, size + 7, 0)
               else getL b bits last k (Go.bits .or .u64 n (IntKind.u64.wrap (IntKind.u64.wrap (Go.bits .and .u8 (rd b at_) 127) * 2 ^ size.toNat))) (at_ + 1) (size + 7))
            else some (0, 0, 0, 8)
          else
            (if rd b at_ < 128 then some (Go.bits .or .u64 n (IntKind.u64.wrap (IntKind.u64.wrap (Go.bits .and .u8 (rd b at_) 127) * 2 ^ size.toNat)), at_ + 1, size + 7, 0)
             else getL b bits last k (Go.bits .or .u64 n (IntKind.u64.wrap (IntKind.u64.wrap (Go.bits .and .u8 (rd b at_) 127) * 2 ^ size.toNat))) (at_ + 1) (size + 7))
        else none
      else none
    else some (n, at_, size, 0)
def getF (b : List Int) (a bits : Int) (last : Int → Bool) : Option (Int × Int × Int × Int) :=
  if a < 0 then some (0, 0, 0, 2) else if (b.length : Int) < a then some (0, 0, 0, 2) else getL b bits last 11 0 a 0
end Go.Proofs.Ytgnnalempnbjnaa
