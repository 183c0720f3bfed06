/- Some bytes. -/
import Derived.Test.YtnohkcklakipoaaGreatDoorTokA
namespace Go.Proofs.YtnohkcklakipoaaGreatDoor.Tok
open Go Go.RowKit Go.Proofs Go.Proofs.YtnohkcklakipoaaGreatDoor.Ev
set_option maxRecDepth 1000000
theorem b8:(fun k=>(List.range' 128 16).all fun n=>V113 k n == F113 k (n:Int))=fun _=>true:=by kernel_rfl
theorem b9:(fun k=>(List.range' 144 16).all fun n=>V113 k n == F113 k (n:Int))=fun _=>true:=by kernel_rfl
theorem b10:(fun k=>(List.range' 160 16).all fun n=>V113 k n == F113 k (n:Int))=fun _=>true:=by kernel_rfl
theorem b11:(fun k=>(List.range' 176 16).all fun n=>V113 k n == F113 k (n:Int))=fun _=>true:=by kernel_rfl
end Go.Proofs.YtnohkcklakipoaaGreatDoor.Tok
