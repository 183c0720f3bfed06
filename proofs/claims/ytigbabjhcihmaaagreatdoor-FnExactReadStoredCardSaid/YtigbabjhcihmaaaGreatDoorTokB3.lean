/- Some bytes. -/
import Derived.Test.YtigbabjhcihmaaaGreatDoorTokA
namespace Go.Proofs.YtigbabjhcihmaaaGreatDoor.Tok
open Go Go.RowKit Go.Proofs Go.Proofs.YtigbabjhcihmaaaGreatDoor.Ev
set_option maxRecDepth 1000000
theorem b12:(fun k=>(List.range' 192 16).all fun n=>V307 k n == F307 k (n:Int))=fun _=>true:=by kernel_rfl
theorem b13:(fun k=>(List.range' 208 16).all fun n=>V307 k n == F307 k (n:Int))=fun _=>true:=by kernel_rfl
theorem b14:(fun k=>(List.range' 224 16).all fun n=>V307 k n == F307 k (n:Int))=fun _=>true:=by kernel_rfl
theorem b15:(fun k=>(List.range' 240 16).all fun n=>V307 k n == F307 k (n:Int))=fun _=>true:=by kernel_rfl
end Go.Proofs.YtigbabjhcihmaaaGreatDoor.Tok
