/- Some bytes. -/
import Derived.Test.YtigbabjhcihmaaaGreatDoorTokA
namespace Go.Proofs.YtigbabjhcihmaaaGreatDoor.Tok
open Go Go.RowKit Go.Proofs Go.Proofs.YtigbabjhcihmaaaGreatDoor.Ev
set_option maxRecDepth 1000000
theorem b8:(fun k=>(List.range' 128 16).all fun n=>V307 k n == F307 k (n:Int))=fun _=>true:=by kernel_rfl
theorem b9:(fun k=>(List.range' 144 16).all fun n=>V307 k n == F307 k (n:Int))=fun _=>true:=by kernel_rfl
theorem b10:(fun k=>(List.range' 160 16).all fun n=>V307 k n == F307 k (n:Int))=fun _=>true:=by kernel_rfl
theorem b11:(fun k=>(List.range' 176 16).all fun n=>V307 k n == F307 k (n:Int))=fun _=>true:=by kernel_rfl
end Go.Proofs.YtigbabjhcihmaaaGreatDoor.Tok
