/- the chapter's example, in plain numbers -/
import Derived.Test.YtpmfikkcidgoeaaSquare
namespace Go.Proofs.Ytpmfikkcidgoeaa
open Go.RowKit
def wantE : List Edge := [(nmA, pairs4 0 0 16 0), (nmB, pairs4 16 0 16 13), (nmC, pairs4 16 13 0 13), (nmD, pairs4 0 13 0 0)]
theorem sq_graded : gradedE sqE sqC 3 = wantE := by decide +kernel
theorem sq_ok : gradedR sqE sqC 3 = 0 := by decide +kernel
theorem sq_bad : gradedR sqE sqC 101 = 3 := by decide +kernel
theorem sq_areasE : areasE sqE sqC [0, 3] = 0 := by decide +kernel
theorem sq_areas : [0, 3].map (areaAt sqE sqC) = [200, 416] := by decide +kernel
theorem sq_turn : (turnE true 0 sqE).take 1 = [(nmA, pairs4 (-10) 0 0 0)] := by decide +kernel
theorem sq_corner : gS (turnC true 0 4 sqC) 0 = (-2, 0) := by decide +kernel
theorem sq_width : turnW true 4 sqW = [1, 4, 3, 2] := by decide +kernel
theorem sq_notch : gS (turnNs true sqE sqN') 0 = (3, 6000) := by decide +kernel
theorem sq_l1 : (turnE true 0 sqE).length = 4 := by decide +kernel
theorem sq_l2 : (turnC true 0 4 sqC).length = 4 := by decide +kernel
theorem sq_l3 : (turnNs true sqE sqN').length = 1 := by decide +kernel
end Go.Proofs.Ytpmfikkcidgoeaa
