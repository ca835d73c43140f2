/- l02Two of the reference: two machines and their letters. -/
import Derived.Test.YtkkjhakniolooaaSTwA
import Derived.Test.YtkkjhakniolooaaSTwB
import Derived.Test.YtkkjhakniolooaaSTwC
namespace Go.Proofs.Ytkkjhakniolooaa
open Go.RowKit
set_option linter.unusedVariables false
theorem sTwoM_any (ga gb : Nat) (S T : Int) (L : List A4) (P E : List Int) (A2 : Option Addr) (n2 c2 : Nat) (A3 : Option Addr) (n3 c3 : Nat) (A4x : Option Addr) (n4 c4 : Nat) (S' T' : Int) (L' : List A4) (P' E' : List Int) (B2 : Option Addr) (m2 d2 : Nat) (B3 : Option Addr) (m3 d3 : Nat) (B4 : Option Addr) (m4 d4 : Nat) (w : World)
    (ra : Row w ga 29 [.int .i64 S, .int .i64 T, .slice A2 n2 c2, .slice A3 n3 c3, .slice A4x n4 c4]) (rb : Row w gb 29 [.int .i64 S', .int .i64 T', .slice B2 m2 d2, .slice B3 m3 d3, .slice B4 m4 d4])
    (h2 : SlA w w.heap.size A2 n2 L) (h3 : SlI w w.heap.size A3 n3 P) (h4 : SlI w w.heap.size A4x n4 E) (k2 : SlA w w.heap.size B2 m2 L') (k3 : SlI w w.heap.size B3 m3 P') (k4 : SlI w w.heap.size B4 m4 E')
    (hL : n2 ≤ 4294967296) (hP : n3 ≤ 4294967296) (hE : n4 ≤ 4294967296) (kL : m2 ≤ 4294967296) (kP : m3 ≤ 4294967296) (kE : m4 ≤ 4294967296) (hne : ga ≠ gb) :
    Calls Try.prog 16 #[.pointer (some ⟨ga, 0, none⟩), .pointer (some ⟨gb, 0, none⟩)] w fun e w' => e = .returned (.bool (twB S T L P E S' T' L' P' E')) ∧ Below w.heap.size w w' := by
  cases hok : vmB S T L P E with
  | false => exact sTwoM_no1 ga gb S T L P E A2 n2 c2 A3 n3 c3 A4x n4 c4 S' T' L' P' E' B2 m2 d2 B3 m3 d3 B4 m4 d4 w ra rb h2 h3 h4 k2 k3 k4 hL hP hE kL kP kE hne hok
  | true =>
    cases hok' : vmB S' T' L' P' E' with
    | false => exact sTwoM_no2 ga gb S T L P E A2 n2 c2 A3 n3 c3 A4x n4 c4 S' T' L' P' E' B2 m2 d2 B3 m3 d3 B4 m4 d4 w ra rb h2 h3 h4 k2 k3 k4 hL hP hE kL kP kE hne hok hok'
    | true => exact sTwoM_yes ga gb S T L P E A2 n2 c2 A3 n3 c3 A4x n4 c4 S' T' L' P' E' B2 m2 d2 B3 m3 d3 B4 m4 d4 w ra rb h2 h3 h4 k2 k3 k4 hL hP hE kL kP kE hne hok hok'
end Go.Proofs.Ytkkjhakniolooaa
