/- The law SolomonWrong, its arguments' bounds as the row hands them over. -/
import Derived.Test.YtlifghomejdhnaaDoorWrng
import Derived.Test.YtlifghomejdhnaaDoorLaid
namespace Go.Proofs.YtlifghomejdhnaaDoor
open Go.RowKit Go.Proofs.YtlifghomejdhnaaDoorW.PrintWords
theorem wrong_law (A0 : Option Addr) (c0 : Nat) (l0 : List Int) (way n : Int) (w : World) (hr0 : Kd.C (Kd.int .u8) w A0 l0.length l0) (hc0 : l0.length ≤ c0) (hp0 : ∀ x ∈ l0, 0 ≤ x ∧ x < 256) (hl0 : l0.length ≤ 140737488351232) (hw : 0 ≤ way ∧ way < 256) (hn : -9223372036854775808 ≤ n ∧ n < 9223372036854775808) (hp : PW w) :
    Calls Tryd.prog 8 #[.slice A0 l0.length c0, .int .u8 way, .int .i64 n] w fun e w' => e = .returned (.bool true) ∧ Below w.heap.size w w' :=
  wrong_any A0 c0 l0 way n w hp hr0 hc0 hl0 hp0 hw.1 hw.2 hn.1 (by omega)
end Go.Proofs.YtlifghomejdhnaaDoor
