/- Where four connections at most that ask for one target can stand: the worlds. -/
import Derived.Test.YtnohkcklakipoaaGreatDoorFns
namespace Go.Proofs.YtnohkcklakipoaaGreatDoor.FnTogether
open Go Go.RowKit Go.Proofs Go.Proofs.YtnohkcklakipoaaGreatDoor.Ev Go.Proofs.YtnohkcklakipoaaGreatDoor.Fns
set_option maxRecDepth 1000000
set_option linter.unusedVariables false
set_option linter.unusedSimpArgs false
def z0:ByteArray:=(ByteArray.mk #[])
def z1:ByteArray:=(ByteArray.mk #[71,69,84])
def z2:ByteArray:=(ByteArray.mk #[47,97])
def z3:D1:=(z1,z2,[],z0)
def z4:D2:=(0,[],z0)
def z5:D3:=(z0,[],z4,0,0)
def z6:D11:=(2,z0,1,z3,z3,z5,false,0,0,0,0,false,z4,[])
def z7:ByteArray:=(ByteArray.mk #[100,97,116,101])
def z8:ByteArray:=(ByteArray.mk #[84,104,117,44,32,48,49,32,74,97,110,32,49,57,55,48,32,48,48,58,48,48,58,48,48,32,71,77,84])
def z9:D0:=(z7,z8)
def z10:ByteArray:=(ByteArray.mk #[101,116,97,103])
def z11:ByteArray:=(ByteArray.mk #[34,118,51,34])
def z12:D0:=(z10,z11)
def z13:ByteArray:=(ByteArray.mk #[99,97,99,104,101,45,99,111,110,116,114,111,108])
def z14:ByteArray:=(ByteArray.mk #[109,97,120,45,97,103,101,61,57])
def z15:D0:=(z13,z14)
def z16:ByteArray:=(ByteArray.mk #[98,111,100,121])
def z17:D2:=(200,[z9,z12,z15],z16)
def z18:D11:=(3,z0,1,z3,z3,z5,false,0,0,0,0,true,z17,[])
def z19:D11:=(4,z0,1,z3,z3,z5,false,0,0,0,0,true,z17,[])
def z20:D11:=(6,z0,1,z3,z3,z5,false,0,0,0,0,true,z17,[])
def z21:D1:=(z0,z0,[],z0)
def z22:D10:=(1,z17)
def z23:D11:=(0,z0,0,z21,z21,z5,false,(-1),0,0,0,false,z4,[z22])
def z24:D11:=(7,z0,0,z21,z21,z5,false,(-1),0,0,0,false,z4,[z22])
def z25:D11:=(5,z0,2,z3,z21,z5,false,0,0,0,0,false,z4,[])
def z26:ByteArray:=(ByteArray.mk #[97,103,101])
def z27:ByteArray:=(ByteArray.mk #[48])
def z28:D0:=(z26,z27)
def z29:D2:=(200,[z9,z12,z15,z28],z16)
def z30:D11:=(6,z0,2,z3,z21,z5,false,(-1),0,0,0,false,z29,[])
def z31:D10:=(2,z29)
def z32:D11:=(0,z0,0,z21,z21,z5,false,(-1),0,0,0,false,z4,[z31])
def z33:D11:=(7,z0,0,z21,z21,z5,false,(-1),0,0,0,false,z4,[z31])
def z34:D11:=(5,z0,3,z3,z21,z5,false,0,0,0,0,false,z4,[])
def z35:D11:=(6,z0,3,z3,z21,z5,false,(-1),0,0,0,false,z29,[])
def z36:D10:=(3,z29)
def z37:D11:=(0,z0,0,z21,z21,z5,false,(-1),0,0,0,false,z4,[z36])
def z38:D11:=(7,z0,0,z21,z21,z5,false,(-1),0,0,0,false,z4,[z36])
def z39:D11:=(5,z0,4,z3,z21,z5,false,0,0,0,0,false,z4,[])
def z40:D11:=(6,z0,4,z3,z21,z5,false,(-1),0,0,0,false,z29,[])
def z41:D10:=(4,z29)
def z42:D11:=(0,z0,0,z21,z21,z5,false,(-1),0,0,0,false,z4,[z41])
def z43:D11:=(7,z0,0,z21,z21,z5,false,(-1),0,0,0,false,z4,[z41])
def z44:D5:=(2,50,[],0)
def z45:D3:=(z2,[],z17,0,0)
def z46:D4:=(z45,false)
def z47:D5:=(2,50,[z46],0)
def z48:D12:=(z2,true,0,false,false,z3,z4,0,0)
def z49:D12:=(z2,false,0,true,true,z3,z17,0,0)
def z50:D8:=(z2,z16,3,0,false,false,[z15])
def z51:D13:=(1,0,1,z2,0,0)
def z52:D13:=(4,0,1,z2,0,0)
def z53:D13:=(1,1,2,z2,0,0)
def z54:D13:=(3,1,2,z2,0,0)
def z55:D13:=(1,2,3,z2,0,0)
def z56:D13:=(3,2,3,z2,0,0)
def z57:D13:=(1,3,4,z2,0,0)
def z58:D13:=(3,3,4,z2,0,0)
def cA (p:Nat):D11:=([z6,z18,z19,z20,z23,z24]:List D11).getD p z6
def cB (j p:Nat):D11:=(([[z25,z30,z32,z33],[z34,z35,z37,z38],[z39,z40,z42,z43]]:List (List D11)).getD j []).getD p z25
def ca (p:Nat):D7:=([([z44],[]),([z44],[]),([z44],[]),([z47],[]),([z47],[]),([z47],[])]:List D7).getD p ([z44],[])
def fl (p:Nat):List D12:=([[z48],[z48],[z48],[z49],[z49],[z49]]:List (List D12)).getD p []
def W (n:Nat) (p:List Nat) (L:List D13):D14:=((0:Int),(n:Int),cA (p.getD 0 0) :: (List.range (n-1)).map (fun j=>cB j (p.getD (j+1) 0)),ca (p.getD 0 0),fl (p.getD 0 0),[z50],L)
def nx (p:List Nat) (i:Nat):List Nat:=match i with
  | 0=>p.set 0 (min (p.getD 0 0+1) 5)
  | j+1=>bif Nat.beq (p.getD (j+1) 0) 0&&Nat.blt (p.getD 0 0) 3 then p else p.set (j+1) (min (p.getD (j+1) 0+1) 3)
def ev (p:List Nat) (i:Nat):List D13:=match i with
  | 0=>bif Nat.beq (p.getD 0 0) 0 then [((6:Int),(0:Int),(1:Int),z2,(3:Int),(0:Int))] else bif Nat.beq (p.getD 0 0) 2 then [((7:Int),(0:Int),(1:Int),z2,(3:Int),(0:Int))] else bif Nat.beq (p.getD 0 0) 3 then [((11:Int),(0:Int),(1:Int),z2,(3:Int),(0:Int))] else []
  | j+1=>bif Nat.beq (p.getD (j+1) 0) 0 then (bif Nat.blt (p.getD 0 0) 3 then [] else [((10:Int),((j+1:Nat):Int),((j+2:Nat):Int),z2,(3:Int),(0:Int))]) else bif Nat.beq (p.getD (j+1) 0) 1 then [((11:Int),((j+1:Nat):Int),((j+2:Nat):Int),z2,(3:Int),(0:Int))] else []
def ml (n:Nat) (p:List Nat):Nat:=2*n+(bif Nat.ble 1 (p.getD 0 0) then 1 else 0)+(bif Nat.ble 3 (p.getD 0 0) then 1 else 0)+(bif Nat.ble 4 (p.getD 0 0) then 1 else 0)+((p.drop 1).map fun q=>min q 2).sum
def lg (x:Nat→D13) (m:Nat):List D13:=(List.range m).map x
def url:ByteArray:=z2
def st2:List (List Nat):=[[0,0],[1,0],[2,0],[3,0],[3,1],[3,2],[3,3],[4,0],[4,1],[4,2],[4,3],[5,0],[5,1],[5,2],[5,3]]
def log2:List D13:=[z51,z52,z53,z54]
def st3:List (List Nat):=[[0,0,0],[1,0,0],[2,0,0],[3,0,0],[3,0,1],[3,0,2],[3,0,3],[3,1,0],[3,1,1],[3,1,2],[3,1,3],[3,2,0],[3,2,1],[3,2,2],[3,2,3],[3,3,0],[3,3,1],[3,3,2],[3,3,3],[4,0,0],[4,0,1],[4,0,2],[4,0,3],[4,1,0],[4,1,1],[4,1,2],[4,1,3],[4,2,0],[4,2,1],[4,2,2],[4,2,3],[4,3,0],[4,3,1],[4,3,2],[4,3,3],[5,0,0],[5,0,1],[5,0,2],[5,0,3],[5,1,0],[5,1,1],[5,1,2],[5,1,3],[5,2,0],[5,2,1],[5,2,2],[5,2,3],[5,3,0],[5,3,1],[5,3,2],[5,3,3]]
def log3:List D13:=[z51,z52,z53,z54,z55,z56]
def st4:List (List Nat):=[[0,0,0,0],[1,0,0,0],[2,0,0,0],[3,0,0,0],[3,0,0,1],[3,0,0,2],[3,0,0,3],[3,0,1,0],[3,0,1,1],[3,0,1,2],[3,0,1,3],[3,0,2,0],[3,0,2,1],[3,0,2,2],[3,0,2,3],[3,0,3,0],[3,0,3,1],[3,0,3,2],[3,0,3,3],[3,1,0,0],[3,1,0,1],[3,1,0,2],[3,1,0,3],[3,1,1,0],[3,1,1,1],[3,1,1,2],[3,1,1,3],[3,1,2,0],[3,1,2,1],[3,1,2,2],[3,1,2,3],[3,1,3,0],[3,1,3,1],[3,1,3,2],[3,1,3,3],[3,2,0,0],[3,2,0,1],[3,2,0,2],[3,2,0,3],[3,2,1,0],[3,2,1,1],[3,2,1,2],[3,2,1,3],[3,2,2,0],[3,2,2,1],[3,2,2,2],[3,2,2,3],[3,2,3,0],[3,2,3,1],[3,2,3,2],[3,2,3,3],[3,3,0,0],[3,3,0,1],[3,3,0,2],[3,3,0,3],[3,3,1,0],[3,3,1,1],[3,3,1,2],[3,3,1,3],[3,3,2,0],[3,3,2,1],[3,3,2,2],[3,3,2,3],[3,3,3,0],[3,3,3,1],[3,3,3,2],[3,3,3,3],[4,0,0,0],[4,0,0,1],[4,0,0,2],[4,0,0,3],[4,0,1,0],[4,0,1,1],[4,0,1,2],[4,0,1,3],[4,0,2,0],[4,0,2,1],[4,0,2,2],[4,0,2,3],[4,0,3,0],[4,0,3,1],[4,0,3,2],[4,0,3,3],[4,1,0,0],[4,1,0,1],[4,1,0,2],[4,1,0,3],[4,1,1,0],[4,1,1,1],[4,1,1,2],[4,1,1,3],[4,1,2,0],[4,1,2,1],[4,1,2,2],[4,1,2,3],[4,1,3,0],[4,1,3,1],[4,1,3,2],[4,1,3,3],[4,2,0,0],[4,2,0,1],[4,2,0,2],[4,2,0,3],[4,2,1,0],[4,2,1,1],[4,2,1,2],[4,2,1,3],[4,2,2,0],[4,2,2,1],[4,2,2,2],[4,2,2,3],[4,2,3,0],[4,2,3,1],[4,2,3,2],[4,2,3,3],[4,3,0,0],[4,3,0,1],[4,3,0,2],[4,3,0,3],[4,3,1,0],[4,3,1,1],[4,3,1,2],[4,3,1,3],[4,3,2,0],[4,3,2,1],[4,3,2,2],[4,3,2,3],[4,3,3,0],[4,3,3,1],[4,3,3,2],[4,3,3,3],[5,0,0,0],[5,0,0,1],[5,0,0,2],[5,0,0,3],[5,0,1,0],[5,0,1,1],[5,0,1,2],[5,0,1,3],[5,0,2,0],[5,0,2,1],[5,0,2,2],[5,0,2,3],[5,0,3,0],[5,0,3,1],[5,0,3,2],[5,0,3,3],[5,1,0,0],[5,1,0,1],[5,1,0,2],[5,1,0,3],[5,1,1,0],[5,1,1,1],[5,1,1,2],[5,1,1,3],[5,1,2,0],[5,1,2,1],[5,1,2,2],[5,1,2,3],[5,1,3,0],[5,1,3,1],[5,1,3,2],[5,1,3,3],[5,2,0,0],[5,2,0,1],[5,2,0,2],[5,2,0,3],[5,2,1,0],[5,2,1,1],[5,2,1,2],[5,2,1,3],[5,2,2,0],[5,2,2,1],[5,2,2,2],[5,2,2,3],[5,2,3,0],[5,2,3,1],[5,2,3,2],[5,2,3,3],[5,3,0,0],[5,3,0,1],[5,3,0,2],[5,3,0,3],[5,3,1,0],[5,3,1,1],[5,3,1,2],[5,3,1,3],[5,3,2,0],[5,3,2,1],[5,3,2,2],[5,3,2,3],[5,3,3,0],[5,3,3,1],[5,3,3,2],[5,3,3,3]]
def log4:List D13:=[z51,z52,z53,z54,z55,z56,z57,z58]
end Go.Proofs.YtnohkcklakipoaaGreatDoor.FnTogether
