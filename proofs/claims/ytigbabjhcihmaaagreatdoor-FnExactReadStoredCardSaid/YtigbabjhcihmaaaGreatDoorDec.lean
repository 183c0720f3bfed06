/- The reference's Dec tells the decimal numeral, as Go's strconv.Itoa does. -/
import Derived.Test.YtigbabjhcihmaaaGreatDoorFam
import Derived.Test.YtigbabjhcihmaaaGreatDoorEvLb
namespace Go.Proofs.YtigbabjhcihmaaaGreatDoor.Fns
open Go Go.RowKit Go.Proofs Go.Proofs.YtigbabjhcihmaaaGreatDoor.Ev Go.Proofs.YtigbabjhcihmaaaGreatDoor.Pl
set_option linter.unusedVariables false
set_option linter.unusedSimpArgs false
theorem digit_fin:∀ d:Fin 10,strOf [wr .u8 (wrap64 (48+(d.val:Int)))]=⟨#[UInt8.ofNat (48+d.val)]⟩:=by decide +kernel
theorem digit_nat (d:Nat) (h:d<10):strOf [wr .u8 (wrap64 (48+(d:Int)))]=⟨#[UInt8.ofNat (48+d)]⟩:=digit_fin ⟨d,h⟩
theorem bytes_ext {a b:ByteArray} (h:a.data.toList=b.data.toList):a=b:=by
  cases a;cases b;simp only at h;rw [Array.ext' h]
theorem append_data (a b:ByteArray):(a++b).data.toList=a.data.toList++b.data.toList:=by simp
theorem size_data (a:ByteArray):a.size=a.data.toList.length:=by rw [Array.length_toList];rfl
theorem dec_iter {fin:ByteArray→Option ByteArray} {step:(Int × ByteArray × Unit→Option ByteArray)→Int × ByteArray × Unit→Option ByteArray}
    (hstep:∀ (x:Int) (out:ByteArray) rec,x≠0→x.natAbs≤9223372036854775808→out.size≤40→step rec (x,out,())=rec (x.tdiv 10,(⟨#[UInt8.ofNat (48+x.natAbs % 10)]⟩:ByteArray)++out,()))
    (hend:∀ out rec,step rec ((0:Int),out,())=fin out) :
    ∀ (m k:Nat) (x:Int) (out:ByteArray),x.natAbs<10 ^ m→x.natAbs≤9223372036854775808→x≠0→m<k→out.size+m≤40→iter step k (x,out,())=fin ((⟨(Lib.decDigits x.natAbs).toArray⟩:ByteArray)++out)
  | 0, k, x, out, hx, _, h0, _, _ => by exfalso; apply h0; have : x.natAbs = 0 := by simpa using hx
                                        exact Int.natAbs_eq_zero.mp this
  | m+1,0,x,out,_,_,_,hk,_=>by omega
  | m+1,k+1,x,out,hx,hb,h0,hk,ho=>by
    simp only [iter]
    rw [hstep x out _ h0 hb (by omega)]
    have hd:(x.tdiv 10).natAbs=x.natAbs / 10:=Int.natAbs_tdiv x 10
    by_cases h:x.natAbs<10
    · have hz:x.tdiv 10=0:=Int.natAbs_eq_zero.mp (by rw [hd];omega)
      rw [hz]
      obtain ⟨k',rfl⟩:∃ k',k=k'+1:=⟨k-1,by omega⟩
      simp only [iter]
      rw [hend,Lib.decDigits,dif_pos h,Nat.mod_eq_of_lt h]
    · have hz:x.tdiv 10≠0:=fun e=>by rw [e] at hd;simp at hd;omega
      have hs:((⟨#[UInt8.ofNat (48+x.natAbs % 10)]⟩:ByteArray)++out).size=out.size+1:=by
        rw [ByteArray.size_append];show 1+out.size=_;omega
      rw [dec_iter hstep hend m k _ _ (by rw [hd];rw [Nat.pow_succ] at hx;omega) (by rw [hd];omega) hz (by omega) (by rw [hs];omega)]
      congr 1
      apply bytes_ext
      rw [hd,append_data,append_data,append_data]
      conv=>rhs;rw [Lib.decDigits,dif_neg h]
      simp
theorem itoa_size (n:Int) (h:n.natAbs<18446744073709551616):(Lib.itoa n).length≤21:=by
  have h1:(Lib.decDigits n.natAbs).length≤20:=by rw [Lib.decDigits_length];exact Lib.nDigits_le20 _ h
  unfold Lib.itoa
  split
  · simp;omega
  · next hn =>
    have:n.toNat=n.natAbs:=by omega
    rw [this];omega
theorem dec_eq (k:Nat) (hk:fuel<k) (n:Int) (h0:-9223372036854775808≤n) (h1:n≤9223372036854775807):F221 k n=some ⟨(Lib.itoa n).toArray⟩:=by
  have hk':2097152<k:=hk
  unfold F221
  by_cases hz:n=0
  · subst hz
    rw [dT rfl,cond_true]
    congr 1
    decide +kernel
  rw [dF hz,cond_false]
  have hn:n.natAbs≤9223372036854775808:=by omega
  refine Eq.trans (dec_iter (fin:=fun out=>bif (decide (n<(0:Int))) then (bif (decide ((ByteArray.mk #[45]).size+out.size<mostText)) then some ((ByteArray.mk #[45])++out) else none) else some out) ?_ ?_ 19 k n (ByteArray.mk #[]) (by omega) hn hz (by omega) (by decide)) ?_
  · intro x out rec hx hb ho
    have hm:(x.tmod 10).natAbs=x.natAbs % 10:=Int.natAbs_tmod x 10
    have hlt:x.natAbs % 10<10:=Nat.mod_lt _ (by decide)
    have hd:(x.tdiv 10).natAbs=x.natAbs / 10:=Int.natAbs_tdiv x 10
    have hw:wrap64 (x.tdiv 10)=x.tdiv 10:=w64 (by omega) (by omega)
    simp only [dF hx,Bool.not_false,cond_true,dF (show ¬ (10:Int)=0 by decide),cond_false,hw]
    by_cases hneg:x.tmod 10<0
    · have e1:wrap64 (-(x.tmod 10))=((x.natAbs % 10:Nat):Int):=by rw [w64 (by omega) (by omega)];omega
      rw [dT hneg,e1,digit_nat _ hlt]
      have hs:decide ((⟨#[UInt8.ofNat (48+x.natAbs % 10)]⟩:ByteArray).size+out.size<mostText)=true:=dT (by show 1+out.size<4611686018427387904;omega)
      rw [hs];rfl
    · have e1:x.tmod 10=((x.natAbs % 10:Nat):Int):=by omega
      rw [dF hneg,e1,digit_nat _ hlt]
      have hs:decide ((⟨#[UInt8.ofNat (48+x.natAbs % 10)]⟩:ByteArray).size+out.size<mostText)=true:=dT (by show 1+out.size<4611686018427387904;omega)
      rw [hs];rfl
  · intro out rec
    show cond (!decide ((0:Int)=0)) _ _=_
    rw [dT rfl]
    rfl
  · have hl:(Lib.decDigits n.natAbs).length≤20:=by rw [Lib.decDigits_length];exact Lib.nDigits_le20 _ (by omega)
    have he:(⟨(Lib.decDigits n.natAbs).toArray⟩:ByteArray)++(ByteArray.mk #[])=⟨(Lib.decDigits n.natAbs).toArray⟩:=bytes_ext (by rw [append_data];simp)
    simp only [he]
    unfold Lib.itoa
    by_cases hneg:n<0
    · rw [dT hneg,if_pos hneg]
      have hs:decide ((ByteArray.mk #[45]).size+(⟨(Lib.decDigits n.natAbs).toArray⟩:ByteArray).size<mostText)=true:=dT (by
        rw [size_data]
        show 1+(Lib.decDigits n.natAbs).toArray.toList.length<4611686018427387904
        simp only [List.toList_toArray];omega)
      rw [hs]
      simp only [cond_true]
      congr 1
    · rw [dF hneg,if_neg hneg,show n.toNat=n.natAbs by omega];rfl
theorem itoa_eq (n:Int) (h0:-9223372036854775808≤n) (h1:n≤9223372036854775807):semItoa n=some ⟨(Lib.itoa n).toArray⟩:=by
  unfold semItoa;rw [dT ⟨h0,h1⟩];rfl
theorem itoa_len (n:Int) (h0:-9223372036854775808≤n) (h1:n≤9223372036854775807):(⟨(Lib.itoa n).toArray⟩:ByteArray).size≤21:=by
  rw [size_data]
  have:=itoa_size n (by omega)
  simpa using this
end Go.Proofs.YtigbabjhcihmaaaGreatDoor.Fns
