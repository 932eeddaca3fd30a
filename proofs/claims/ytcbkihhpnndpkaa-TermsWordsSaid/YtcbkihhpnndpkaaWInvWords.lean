-- PRINTED BY print.sh 35421559b90ae4d0a3588c463048766b98c2df88dd9212a6774a882060cdf62d: not written by this session
import Derived.Test.YtcbkihhpnndpkaaWInv
import Derived.Test.YtcbkihhpnndpkaaWN
namespace Go.Proofs.YtcbkihhpnndpkaaW.PrintWords
open Go.RowKit
theorem atom_of {v1 v2 : Value} {k : Nat} (h : v1.ownBlock = none ∨ v1.ownBlock ≠ v2.ownBlock) (hk : v1.ownBlock = some k) : some k ≠ v2.ownBlock := by
 rcases h with h | h
 · rw [h] at hk; cases hk
 · rw [← hk]; exact h
end Go.Proofs.YtcbkihhpnndpkaaW.PrintWords
namespace Go.Proofs.YtcbkihhpnndpkaaW.PrintLast
section
variable {ops : Array Oper} {a : Act} {o og : Oper} {g : Nat} {t : Tmp} {u : Bool}
end
end Go.Proofs.YtcbkihhpnndpkaaW.PrintLast
