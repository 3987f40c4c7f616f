/- Whether a moment is passed: plain. -/
import Derived.Test.YthcilaomjkaciaaPfro
namespace Go.Proofs.Ythcilaomjkaciaa.K
open Go.RowKit Go.Lib
theorem passed_ok {l : List GChange} (h : small l) (loc t : Int) : m_front_Passed l loc t = some (decide (t < frn l loc)) := by
  unfold m_front_Passed
  rw [of_ok h, obind_some]
end Go.Proofs.Ythcilaomjkaciaa.K
