/- Words for arguments of the laws. -/
import Derived.Test.YtgigjfdgejajbaaKit
namespace Go.Proofs.Ytgigjfdgejajbaa
open Go.RowKit

def wcells (xs : List Nat) : List Value := xs.map fun (x : Nat) => .int .u64 (x : Int)
def wok (xs : List Nat) : Prop := ∀ x ∈ xs, x < 18446744073709551616
end Go.Proofs.Ytgigjfdgejajbaa
