/- Some bytes. -/
import Derived.Test.YtnohkcklakipoaaGreatDoorTokA
namespace Go.Proofs.YtnohkcklakipoaaGreatDoor.Tok
open Go Go.RowKit Go.Proofs Go.Proofs.YtnohkcklakipoaaGreatDoor.Ev
set_option maxRecDepth 1000000
theorem b4:(fun k=>(List.range' 64 16).all fun n=>V113 k n == F113 k (n:Int))=fun _=>true:=by kernel_rfl
theorem b5:(fun k=>(List.range' 80 16).all fun n=>V113 k n == F113 k (n:Int))=fun _=>true:=by kernel_rfl
theorem b6:(fun k=>(List.range' 96 16).all fun n=>V113 k n == F113 k (n:Int))=fun _=>true:=by kernel_rfl
theorem b7:(fun k=>(List.range' 112 16).all fun n=>V113 k n == F113 k (n:Int))=fun _=>true:=by kernel_rfl
end Go.Proofs.YtnohkcklakipoaaGreatDoor.Tok
