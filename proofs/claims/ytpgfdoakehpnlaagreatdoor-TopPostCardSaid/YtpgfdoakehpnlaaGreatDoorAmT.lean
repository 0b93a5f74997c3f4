import Derived.Test.YtpgfdoakehpnlaaGreatDoorAmS
set_option linter.unusedVariables false
set_option linter.unusedSimpArgs false
namespace Go.AM
open Go Go.Proofs
set_option linter.unusedVariables false
/-! # TopPost: the runs -/
def bigN : Int := 4611686018427387903
def lenN : Int := 9223372036854775807
def maxN : Int := 9223372036854775808
def bdA : Bd := [(3001, lenN), (0, lenN), (0, 0), (0, 0), (-maxN, maxN)]
def bdB : Bd := [(0, 3000), (3001, lenN), (0, 0), (0, 0), (-maxN, maxN)]
def bdC : Bd := [(1, 3000), (1, 3000), (0, 0), (0, 0), (-bigN, bigN)]
noncomputable def postRun (bd : Bd) (m : SI) (t b : SS) : Bool := chkT (callG (CX bd) extIsB 1000 7 [.int .i64 m, .str t, .str b] fin 6 H0 [])
end Go.AM
