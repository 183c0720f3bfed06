/- Some bytes. -/
import Derived.Test.YtnohkcklakipoaaGreatDoorTokA
namespace Go.Proofs.YtnohkcklakipoaaGreatDoor.Tok
open Go Go.RowKit Go.Proofs Go.Proofs.YtnohkcklakipoaaGreatDoor.Ev
set_option maxRecDepth 1000000
theorem b12:(fun k=>(List.range' 192 16).all fun n=>V113 k n == F113 k (n:Int))=fun _=>true:=by kernel_rfl
theorem b13:(fun k=>(List.range' 208 16).all fun n=>V113 k n == F113 k (n:Int))=fun _=>true:=by kernel_rfl
theorem b14:(fun k=>(List.range' 224 16).all fun n=>V113 k n == F113 k (n:Int))=fun _=>true:=by kernel_rfl
theorem b15:(fun k=>(List.range' 240 16).all fun n=>V113 k n == F113 k (n:Int))=fun _=>true:=by kernel_rfl
end Go.Proofs.YtnohkcklakipoaaGreatDoor.Tok
