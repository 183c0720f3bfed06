/- Some bytes. -/
import Derived.Test.YtnohkcklakipoaaGreatDoorTokA
namespace Go.Proofs.YtnohkcklakipoaaGreatDoor.Tok
open Go Go.RowKit Go.Proofs Go.Proofs.YtnohkcklakipoaaGreatDoor.Ev
set_option maxRecDepth 1000000
theorem b0:(fun k=>(List.range' 0 16).all fun n=>V113 k n == F113 k (n:Int))=fun _=>true:=by kernel_rfl
theorem b1:(fun k=>(List.range' 16 16).all fun n=>V113 k n == F113 k (n:Int))=fun _=>true:=by kernel_rfl
theorem b2:(fun k=>(List.range' 32 16).all fun n=>V113 k n == F113 k (n:Int))=fun _=>true:=by kernel_rfl
theorem b3:(fun k=>(List.range' 48 16).all fun n=>V113 k n == F113 k (n:Int))=fun _=>true:=by kernel_rfl
end Go.Proofs.YtnohkcklakipoaaGreatDoor.Tok
