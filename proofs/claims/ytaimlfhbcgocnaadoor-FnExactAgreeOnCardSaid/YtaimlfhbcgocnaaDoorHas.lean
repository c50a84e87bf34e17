/- Contracts: a state in a set, a pair in a relation. -/
import Derived.Test.YtaimlfhbcgocnaaDoorNum
namespace Go.Proofs.YtaimlfhbcgocnaaDoor.Nu
open Go.RowKit Go.Proofs.YtaimlfhbcgocnaaDoor.Ro Go.Proofs.YtaimlfhbcgocnaaDoor.Bi Go.Proofs.YtaimlfhbcgocnaaDoor.St Go.Proofs.YtaimlfhbcgocnaaDoor.Se

theorem one_nat {s : ByteArray} {m : Nat} (h : m < s.size) : one s m = (s[m].toNat == 49) := one_at h
theorem byte_ok (c : UInt8) : (c.toNat == 49) = (((c.toNat : Int)) == 49) := by
  rw [Bool.eq_iff_iff]; simp only [beq_iff_eq]; omega
def hasB (s : ByteArray) (x y z : Int) : Bool := bitsB s 27 && (stB x y z && one s (ix x y z).toNat)
end Go.Proofs.YtaimlfhbcgocnaaDoor.Nu
