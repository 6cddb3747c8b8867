/- Lists of integers: l1Has, ascending; the greatest common divisor: as the program and as the reference have them. -/
import Derived.Test.YtlhebjlibhpanaaDoorS1
import Derived.Test.YtlhebjlibhpanaaDoorLib1
namespace Go.Proofs.YtlhebjlibhpanaaDoor
open Go.RowKit

def hasI (xs : List Int) (v : Int) : Bool := xs.any fun x => decide (v = x)
def risingAt (lo hi : Int) (xs : List Int) (k : Nat) : Bool :=
  match xs[k]? with
  | none => false
  | some x => inB x lo hi && (k == 0 || (match xs[k - 1]? with | none => false | some p => decide (p < x)))
def risingB (lo hi : Int) (xs : List Int) : Bool := allTo xs.length (risingAt lo hi xs)
theorem risingAt_in {lo hi : Int} {xs : List Int} {k : Nat} (hk : k < xs.length) (h : inB xs[k] lo hi = false) : risingAt lo hi xs k = false := by simp [risingAt, List.getElem?_eq_getElem hk, h]
theorem risingAt_zero {lo hi : Int} {xs : List Int} (hk : 0 < xs.length) (h : inB xs[0] lo hi = true) : risingAt lo hi xs 0 = true := by simp [risingAt, List.getElem?_eq_getElem hk, h]
theorem risingAt_succ {lo hi : Int} {xs : List Int} {k : Nat} (hk : k + 1 < xs.length) (h : inB xs[k + 1] lo hi = true) : risingAt lo hi xs (k + 1) = decide (xs[k] < xs[k + 1]) := by
  have hk' : k < xs.length := by omega
  simp [risingAt, List.getElem?_eq_getElem hk, List.getElem?_eq_getElem hk', h]

end Go.Proofs.YtlhebjlibhpanaaDoor

