/- Loops that put together a row. -/
import Derived.Test.YtigbabjhcihmaaaGreatDoorEv6
namespace Go.Proofs.YtigbabjhcihmaaaGreatDoor.Pl
open Go Go.RowKit Go.Proofs.YtigbabjhcihmaaaGreatDoor.Ev
set_option linter.unusedVariables false
set_option linter.unusedSimpArgs false
theorem cost_append {e:Ty} (a b:List e.den):cost (.slice e) (a++b)=cost (.slice e) a+cost (.slice e) b:=by
  simp only [cost,List.length_append,List.map_append,List.sum_append_nat];omega
end Go.Proofs.YtigbabjhcihmaaaGreatDoor.Pl
