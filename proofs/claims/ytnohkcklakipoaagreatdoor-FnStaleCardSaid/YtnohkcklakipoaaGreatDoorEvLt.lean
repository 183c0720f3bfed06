/- strings.IndexAny of short texts, whatever bytes they hold, among a blank and a tab. No program is named. -/
import Derived.Shelf.Strings.IndexAnyAll
import Derived.Below
namespace Go.Proofs.YtnohkcklakipoaaGreatDoor.Ev
open Go Go.Shelf Go.RowKit Go.Lib Go.Proofs
variable {P:Program} {ρ:Ren}
set_option linter.unusedVariables false
set_option linter.unusedSimpArgs false
theorem get_bang {s:ByteArray} {i:Nat} (h:i<s.size):s.get! i=s[i]'h:=by
  simp [ByteArray.get!,getElem!_pos,h]
  rfl
theorem decode_high (s:ByteArray) (pos:Nat) (h:pos<s.size) (hb:128≤(s.get! pos).toNat) :
    128≤(Utf8.decode s pos).1∧(Utf8.decode s pos).1<2147483648∧1≤(Utf8.decode s pos).2∧pos+(Utf8.decode s pos).2≤s.size∧∀ j,j<(Utf8.decode s pos).2→128≤(s.get! (pos+j)).toNat:=by
  have h256:∀ k,(s.get! k).toNat<256:=fun k=>UInt8.toNat_lt _
  have one:∀ j,j<1→128≤(s.get! (pos+j)).toNat:=fun j hj=>by
    have:j=0:=by omega
    subst this;exact hb
  have g0:=h256 pos
  have g1:=h256 (pos+1)
  have g2:=h256 (pos+2)
  have g3:=h256 (pos+3)
  simp only [Utf8.decode,Utf8.runeError,Nat.add_zero]
  rw [if_neg (by omega)]
  split
  · next h1 =>
    simp only [Bool.and_eq_true,beq_iff_eq,decide_eq_true_eq] at h1
    split
    · refine ⟨by omega,by omega,by omega,by omega,fun j hj=>?_⟩
      obtain rfl | rfl:j=0∨j=1:=by omega
      · exact hb
      · omega
    · exact ⟨by omega,by omega,by omega,by omega,one⟩
  · split
    · next h1 =>
      simp only [Bool.and_eq_true,beq_iff_eq,decide_eq_true_eq] at h1
      split
      · next h2 =>
        simp only [Bool.and_eq_true,decide_eq_true_eq] at h2
        refine ⟨by omega,by omega,by omega,by omega,fun j hj=>?_⟩
        obtain rfl | rfl | rfl:j=0∨j=1∨j=2:=by omega
        · exact hb
        · omega
        · omega
      · exact ⟨by omega,by omega,by omega,by omega,one⟩
    · split
      · next h1 =>
        simp only [Bool.and_eq_true,beq_iff_eq,decide_eq_true_eq] at h1
        split
        · next h2 =>
          simp only [Bool.and_eq_true,decide_eq_true_eq] at h2
          refine ⟨by omega,by omega,by omega,by omega,fun j hj=>?_⟩
          obtain rfl | rfl | rfl | rfl:j=0∨j=1∨j=2∨j=3:=by omega
          · exact hb
          · omega
          · omega
          · omega
        · exact ⟨by omega,by omega,by omega,by omega,one⟩
      · exact ⟨by omega,by omega,by omega,by omega,one⟩
theorem run_next_any (w:World) (n:Nat) (s:ByteArray) (pos:Nat) (ty:TypeId) (hh:w.heap[n]? = some (.stringIter s pos)) (h:pos<s.size) :
    (Instr.next (.pointer (some ⟨n,0,none⟩)) true ty).run P w =
      .ok (.tuple #[.bool true,.int .i64 pos,.int .i32 (Utf8.decode s pos).1]) { w with heap:=w.heap.setIfInBounds n (.stringIter s (pos+(Utf8.decode s pos).2)) }:=by
  simp only [Instr.next,getObj,setObj,Sem.run_bind,Sem.run,hh,Result.andThen,h,if_true]
  simp [goInt,Sem.run,hh]
theorem run_next_over (w:World) (n:Nat) (s:ByteArray) (pos:Nat) (ty:TypeId) (hh:w.heap[n]? = some (.stringIter s pos)) (h:¬ pos<s.size) :
    (Instr.next (.pointer (some ⟨n,0,none⟩)) true ty).run P w = .ok (.tuple #[.bool false]) w:=by
  simp [Instr.next,getObj,Sem.run,hh,h]
theorem encode_high {r:Int} (h0:128≤r):2≤(Utf8.encode r).size∧(Utf8.encode r).size≤4∧∃ b,(Utf8.encode r)[(Utf8.encode r).size-1]? = some b∧128≤b.toNat:=by
  unfold Utf8.encode
  have hc:128≤(if Utf8.valid r then r.toNat else Utf8.runeError):=by
    split
    · omega
    · decide
  have hl:∀ m:Nat,m % 64<64:=fun m=>Nat.mod_lt _ (by decide)
  generalize (if Utf8.valid r then r.toNat else Utf8.runeError)=c at hc
  have hb:∀ m:Nat,128≤(UInt8.ofNat (128+m % 64)).toNat:=fun m=>by
    have:=hl m
    rw [UInt8.toNat_ofNat',Nat.mod_eq_of_lt (by omega)];omega
  simp only
  rw [if_neg (by omega)]
  split
  · exact ⟨Nat.le_refl 2,(by decide:2≤4),_,rfl,hb c⟩
  · split
    · exact ⟨Nat.le_succ _,Nat.le_succ _,_,rfl,hb c⟩
    · exact ⟨(by decide:2≤4),Nat.le_refl 4,_,rfl,hb c⟩
end Go.Proofs.YtnohkcklakipoaaGreatDoor.Ev
