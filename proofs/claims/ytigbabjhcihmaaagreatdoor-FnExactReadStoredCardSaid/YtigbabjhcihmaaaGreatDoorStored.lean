/- What is stored, shown: the program's text is the reference's. -/
import Derived.Test.YtigbabjhcihmaaaGreatDoorResp
namespace Go.Proofs.YtigbabjhcihmaaaGreatDoor.Fns
open Go Go.RowKit Go.Proofs Go.Proofs.YtigbabjhcihmaaaGreatDoor.Ev Go.Proofs.YtigbabjhcihmaaaGreatDoor.Pl
set_option linter.unusedVariables false
set_option linter.unusedSimpArgs false
set_option maxRecDepth 100000
def storedOk (a:D2):Bool:=uriOk a.1&&respOk a.2.2.1&&(decide (0≤a.2.2.2.1)&&decide (a.2.2.2.1≤2000000000))&&(decide (a.2.2.2.1≤a.2.2.2.2)&&decide (a.2.2.2.2≤2000000000))&&decide ((a.2.1.length:Int)≤12)
theorem stored_cost {a:D2}:cost U2 a=a.1.size+cost (.slice U0) a.2.1+cost U1 a.2.2.1:=by
  simp only [cost];omega
theorem stored_S (k:Nat) (hk:fuel<k) (a:D2) (hc:cost U2 a≤big):F109 k a=some (storedOk a):=by
  have h:=stored_cost (a:=a)
  have hc':cost U2 a≤1048576:=hc
  have hk':2097152<k:=hk
  unfold F109 storedOk
  rw [uri_S k a.1 (by omega) (by omega),resp_S k hk a.2.2.1 (by omega),in_S,in_S]
  simp only [Option.bind_some]
  cases uriOk a.1 <;> cases respOk a.2.2.1 <;> cases (decide (0≤a.2.2.2.1)&&decide (a.2.2.2.1≤2000000000)) <;> cases (decide (a.2.2.2.1≤a.2.2.2.2)&&decide (a.2.2.2.2≤2000000000)) <;> rfl
theorem stored_I (k:Nat) (hk:fuel<k) (a:D2) (hc:cost U2 a≤big):F125 k a=some (storedOk a):=by
  have h:=stored_cost (a:=a)
  have hc':cost U2 a≤1048576:=hc
  have hk':2097152<k:=hk
  unfold F125 storedOk
  rw [uri_I k a.1 (by omega) (by omega),resp_I k hk a.2.2.1 (by omega),in_I,in_I]
  simp only [Option.bind_some]
  cases uriOk a.1 <;> cases respOk a.2.2.1 <;> cases (decide (0≤a.2.2.2.1)&&decide (a.2.2.2.1≤2000000000)) <;> cases (decide (a.2.2.2.1≤a.2.2.2.2)&&decide (a.2.2.2.2≤2000000000)) <;> rfl
theorem stored_resp {a:D2} (ok:Ty.Ok U2 a):Ty.Ok U1 a.2.2.1:=ok.2.2.1
theorem showS_same (k:Nat) (hk:fuel<k) (a:D2) (ok:Ty.Ok U2 a) (hc:cost U2 a≤big):∃ w,F60 k a=some w∧F64 k a=some w∧w.size≤67108864:=by
  have h:=stored_cost (a:=a)
  have hc':cost U2 a≤1048576:=hc
  have hk':2097152<k:=hk
  unfold F60 F64
  rw [stored_S k hk a hc,stored_I k hk a hc]
  simp only [Option.bind_some]
  cases storedOk a with
  | false=>exact ⟨_,rfl,rfl,Nat.zero_le _⟩
  | true =>
    simp only [Bool.not_true,cond_false]
    have hlen:a.2.1.length≤cost (.slice U0) a.2.1:=cost_len (e:=U0) a.2.1
    have hcc:cost (.slice U0) a.2.1=a.2.1.length+(a.2.1.map (cost U0)).sum:=rfl
    obtain ⟨u1,u2,u3⟩:=texted_eq k hk a.1 (by omega)
    obtain ⟨n,n1,n2⟩:=var_some k hk (a.2.1.length:Int)
    obtain ⟨r,r1,r2,r3⟩:=showR_same k hk a.2.2.1 (stored_resp ok) (by omega)
    obtain ⟨t1,t2,t3⟩:=texted_eq k hk r (by omega)
    obtain ⟨v,v1,v2⟩:=var_some k hk a.2.2.2.1
    obtain ⟨w,w1,w2⟩:=var_some k hk a.2.2.2.2
    simp only [u1,u2,var_same,n1,Option.bind_some]
    rw [fits (by omega),cond_true]
    have hel:∀ f∈a.2.1,f.1.size≤1048576∧f.2.size≤1048576:=fun f hf=>by
      have h1:cost U0 f≤cost (.slice U0) a.2.1:=cost_mem hf
      rw [field_cost] at h1
      omega
    have hsum:(a.2.1.map fun f=>(texted k f.1++texted k f.2).size).sum≤16*a.2.1.length+(a.2.1.map (cost U0)).sum:=sum_cost (e:=U0) (fun f=>(texted k f.1++texted k f.2).size) 16 a.2.1 fun f hf=>by
      have h1:=(texted_eq k hk f.1 (by have:=(hel f hf).1;omega)).2.2
      have h2:=(texted_eq k hk f.2 (by have:=(hel f hf).2;omega)).2.2
      rw [field_cost]
      simp only [ByteArray.size_append]
      omega
    have hM:(texted k a.1++n).size+(a.2.1.map fun f=>(texted k f.1++texted k f.2).size).sum≤33554432:=by
      rw [ByteArray.size_append];omega
    refine ⟨((a.2.1.foldl (fun x f=>x++(texted k f.1++texted k f.2)) (texted k a.1++n)++texted k r)++v)++w,?_,?_,?_⟩
    · refine (iter_text a.2.1 (fun f=>texted k f.1++texted k f.2) 33554432 (fun x=>some (((x++texted k r)++v)++w)) (fun i hi x rec hx=>?_) (fun x rec hx=>?_) k _ hM (by omega))
      · have hf:=hel _ (List.getElem_mem hi)
        obtain ⟨e1,e2,e3⟩:=texted_eq k hk a.2.1[i].1 (by omega)
        obtain ⟨g1,g2,g3⟩:=texted_eq k hk a.2.1[i].2 (by omega)
        simp only [Int.toNat_natCast]
        rw [dT (show (i:Int)<(a.2.1.length:Int) by omega),dT (show 0≤(i:Int)∧(i:Int)<(a.2.1.length:Int) by omega),w64 (n:=(i:Int)+1) (by omega) (by omega)]
        simp only [cond_true,getD_lt hi,e1,g1,Option.bind_some]
        rw [fits (by omega),fits (by simp only [ByteArray.size_append];omega)]
        simp only [cond_true,ba_assoc,Int.natCast_add,Int.cast_ofNat_Int]
      · simp only
        rw [dF (show ¬ (a.2.1.length:Int)<(a.2.1.length:Int) by omega)]
        simp only [cond_false,r1,t1,v1,w1,Option.bind_some]
        rw [fits (by omega),fits (by simp only [ByteArray.size_append];omega),fits (by simp only [ByteArray.size_append];omega)]
        rfl
    · refine (iter_text a.2.1 (fun f=>texted k f.1++texted k f.2) 33554432 (fun x=>some (((x++texted k r)++v)++w)) (fun i hi x rec hx=>?_) (fun x rec hx=>?_) k _ hM (by omega))
      · have hf:=hel _ (List.getElem_mem hi)
        obtain ⟨e1,e2,e3⟩:=texted_eq k hk a.2.1[i].1 (by omega)
        obtain ⟨g1,g2,g3⟩:=texted_eq k hk a.2.1[i].2 (by omega)
        simp only [Int.toNat_natCast]
        rw [dT (show (i:Int)<(a.2.1.length:Int) by omega),dT (show 0≤(i:Int)∧(i:Int)<(a.2.1.length:Int) by omega),w64 (n:=(i:Int)+1) (by omega) (by omega)]
        simp only [cond_true,getD_lt hi,e2,g2,Option.bind_some]
        rw [fits (by omega),fits (by simp only [ByteArray.size_append];omega)]
        simp only [cond_true,Int.natCast_add,Int.cast_ofNat_Int]
      · simp only
        rw [dF (show ¬ (a.2.1.length:Int)<(a.2.1.length:Int) by omega)]
        simp only [cond_false,r2,t2,v1,w1,var_same,Option.bind_some]
        rw [fits (by omega),fits (by simp only [ByteArray.size_append];omega),fits (by simp only [ByteArray.size_append];omega)]
        rfl
    · simp only [ByteArray.size_append,foldl_size]
      rw [ByteArray.size_append] at hM
      simp only [ByteArray.size_append] at hM
      omega
end Go.Proofs.YtigbabjhcihmaaaGreatDoor.Fns
