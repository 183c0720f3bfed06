/- Numbers in pieces of seven bits: what is shown is read. No program is named. -/
import Derived.Test.YtigbabjhcihmaaaGreatDoorEv6
import Derived.Lib.IndexMore
import Derived.Test.YtigbabjhcihmaaaGreatDoorStored
import Derived.Test.YtigbabjhcihmaaaGreatDoorLoops
namespace Go.Proofs.YtigbabjhcihmaaaGreatDoor.Pl
open Go Go.RowKit Go.Proofs.YtigbabjhcihmaaaGreatDoor.Ev
set_option linter.unusedVariables false
set_option linter.unusedSimpArgs false
def varL (n:Nat):List UInt8:=if h:n<128 then [UInt8.ofNat n] else UInt8.ofNat (128+n % 128) :: varL (n / 128)
termination_by n
decreasing_by omega
def valL:List UInt8→Nat
  | []=>0
  | b :: l=>b.toNat % 128+128*valL l
theorem varL_small {n:Nat} (h:n<128):varL n=[UInt8.ofNat n]:=by rw [varL,dif_pos h]
theorem varL_big {n:Nat} (h:¬ n<128):varL n=UInt8.ofNat (128+n % 128) :: varL (n / 128):=by rw [varL,dif_neg h]
theorem byte_nat {n:Nat} (h:n<256):(UInt8.ofNat n).toNat=n:=by
  rw [UInt8.toNat_ofNat'];exact Nat.mod_eq_of_lt h
theorem val_var (n:Nat):valL (varL n)=n:=by
  induction n using Nat.strongRecOn with
  | ind n ih =>
    by_cases h:n<128
    · rw [varL_small h]
      simp only [valL]
      rw [byte_nat (by omega)];omega
    · rw [varL_big h]
      simp only [valL]
      rw [byte_nat (by omega),ih (n / 128) (by omega)];omega
theorem var_pos (n:Nat):1≤(varL n).length:=by
  by_cases h:n<128
  · rw [varL_small h];exact Nat.le_refl _
  · rw [varL_big h];simp
theorem var_len (m:Nat):∀ n,n<128 ^ (m+1)→(varL n).length≤m+1:=by
  induction m with
  | zero=>intro n h;rw [varL_small (by simpa using h)];exact Nat.le_refl _
  | succ m ih =>
    intro n h
    by_cases q:n<128
    · rw [varL_small q];simp
    · rw [varL_big q,List.length_cons]
      have:=ih (n / 128) (by rw [Nat.pow_succ] at h;omega)
      omega
theorem var_more (n:Nat):∀ (i:Nat) b,i+1<(varL n).length→(varL n)[i]? = some b→128≤b.toNat:=by
  induction n using Nat.strongRecOn with
  | ind n ih =>
    intro i b hi hb
    by_cases h:n<128
    · rw [varL_small h] at hi;simp at hi
    · rw [varL_big h] at hi hb
      cases i with
      | zero =>
        have hb:=Option.some.inj hb
        subst hb
        rw [byte_nat (by omega)];omega
      | succ i=>exact ih (n / 128) (by omega) i b (by simpa using hi) (by simpa using hb)
theorem var_last (n:Nat):∀ (i:Nat) b,i+1=(varL n).length→(varL n)[i]? = some b→b.toNat<128∧(b.toNat=0→i=0):=by
  induction n using Nat.strongRecOn with
  | ind n ih =>
    intro i b hi hb
    by_cases h:n<128
    · rw [varL_small h] at hi hb
      have:i=0:=by simpa using hi
      subst this
      simp at hb;subst hb
      rw [byte_nat (by omega)];exact ⟨h,fun _=>rfl⟩
    · rw [varL_big h] at hi hb
      cases i with
      | zero=>have:=var_pos (n / 128);rw [List.length_cons] at hi;omega
      | succ i =>
        have:=ih (n / 128) (by omega) i b (by simpa using hi) (by simpa using hb)
        refine ⟨this.1,fun h0=>?_⟩
        have hi0:=this.2 h0
        subst hi0
        simp at hi hb
        have hv:=val_var (n / 128)
        cases e:varL (n / 128) with
        | nil=>rw [e] at hb;cases hb
        | cons x t =>
          rw [e] at hi hb hv
          simp at hb hi;subst hb
          subst hi
          simp only [valL] at hv
          omega
theorem valL_take_succ (l:List UInt8) (i:Nat) (h:i<l.length):valL (l.take (i+1))=valL (l.take i)+(l[i].toNat % 128)*128 ^ i:=by
  induction l generalizing i with
  | nil=>simp at h
  | cons x l ih =>
    cases i with
    | zero=>simp [valL]
    | succ i =>
      have:=ih i (by simpa using h)
      simp only [List.take_succ_cons,valL,List.getElem_cons_succ] at this ⊢
      rw [this,Nat.pow_succ,Nat.mul_add,← Nat.add_assoc]
      congr 1
      rw [Nat.mul_comm (128 ^ i) 128,← Nat.mul_assoc,← Nat.mul_assoc,Nat.mul_comm 128]
theorem valL_lt (l:List UInt8):valL l<128 ^ l.length:=by
  induction l with
  | nil=>simp [valL]
  | cons x l ih=>simp only [valL,List.length_cons,Nat.pow_succ];omega
end Go.Proofs.YtigbabjhcihmaaaGreatDoor.Pl
namespace Go.Proofs.YtigbabjhcihmaaaGreatDoor.Pl
open Go Go.RowKit Go.Proofs.YtigbabjhcihmaaaGreatDoor.Ev
set_option linter.unusedVariables false
set_option linter.unusedSimpArgs false
theorem index_one (c:UInt8) (t b:List UInt8):∀ a:List UInt8,(∀ x∈a,x≠c)→Lib.index (a++(c :: t)++b) (c :: t)=a.length
  | [],_=>by
    rw [List.nil_append,List.cons_append]
    unfold Lib.index
    rw [if_pos]
    · rfl
    · rw [List.isPrefixOf_iff_prefix];exact ⟨b,by simp⟩
  | x :: a,h=>by
    have ih:=index_one c t b a fun y hy=>h y (List.mem_cons_of_mem _ hy)
    rw [List.cons_append,List.cons_append]
    unfold Lib.index
    have h0:(c :: t).isPrefixOf (x :: (a++(c :: t)++b))=false:=by
      rw [List.isPrefixOf_cons_cons]
      have:(c == x)=false:=by rw [beq_eq_false_iff_ne];exact fun e=>h x (List.mem_cons_self ..) e.symm
      rw [this];rfl
    rw [h0,ih]
    have:((a.length:Int) == -1)=false:=by rw [beq_eq_false_iff_ne];omega
    rw [this]
    simp
def readF {φ:Type} (fld:List UInt8→List UInt8→φ) (ok:φ→Bool):Nat→List UInt8→List φ→Option (List φ × List UInt8)
  | 0,_,_=>none
  | n+1,r,acc =>
    if Lib.index r [13,10]<0 then none
    else if Lib.index r [13,10]=0 then some (acc,r.drop 2)
    else if Lib.index (r.take (Lib.index r [13,10]).toNat) [58]<0 then none
    else if ok (fld ((r.take (Lib.index r [13,10]).toNat).take (Lib.index (r.take (Lib.index r [13,10]).toNat) [58]).toNat) ((r.take (Lib.index r [13,10]).toNat).drop ((Lib.index (r.take (Lib.index r [13,10]).toNat) [58]).toNat+1)))&&decide (acc.length<12) then
      readF fld ok n (r.drop ((Lib.index r [13,10]).toNat+2)) (acc++[fld ((r.take (Lib.index r [13,10]).toNat).take (Lib.index (r.take (Lib.index r [13,10]).toNat) [58]).toNat) ((r.take (Lib.index r [13,10]).toNat).drop ((Lib.index (r.take (Lib.index r [13,10]).toNat) [58]).toNat+1))])
    else none
theorem readF_show {φ:Type} (fld:List UInt8→List UInt8→φ) (ok:φ→Bool) (nm vl:φ→List UInt8) (body:List UInt8):∀ (l acc:List φ) (n:Nat),
    (∀ f∈l,(∀ x∈nm f,x≠13∧x≠58)∧(∀ x∈vl f,x≠13)∧fld (nm f) (vl f)=f∧ok f=true)→acc.length+l.length≤12→l.length<n →
    readF fld ok n (l.flatMap (fun f=>nm f++58 :: (vl f++[13,10]))++13 :: 10 :: body) acc=some (acc++l,body)
  | [],acc,n,_,_,hn=>by
    obtain ⟨n,rfl⟩:∃ m,n=m+1:=⟨n-1,by omega⟩
    have h0:Lib.index ([]++13 :: 10 :: body) [13,10]=0:=index_one 13 [10] body [] (by simp)
    rw [List.flatMap_nil]
    unfold readF
    rw [h0]
    simp
  | f :: l,acc,n,h,hc,hn=>by
    obtain ⟨n,rfl⟩:∃ m,n=m+1:=⟨n-1,by omega⟩
    obtain ⟨h1,h2,h3,h4⟩:=h f (List.mem_cons_self ..)
    rw [List.length_cons] at hc hn
    have e:List.flatMap (fun f=>nm f++58 :: (vl f++[13,10])) (f :: l)++13 :: 10 :: body=(nm f++58 :: vl f)++[13,10]++(l.flatMap (fun f=>nm f++58 :: (vl f++[13,10]))++13 :: 10 :: body):=by
      rw [List.flatMap_cons];simp
    rw [e]
    generalize hR:l.flatMap (fun f=>nm f++58 :: (vl f++[13,10]))++13 :: 10 :: body=R
    have hi:Lib.index ((nm f++58 :: vl f)++[13,10]++R) [13,10]=(nm f++58 :: vl f).length:=index_one 13 [10] R (nm f++58 :: vl f) (by
      intro x hx
      rcases List.mem_append.mp hx with q | q
      · exact (h1 x q).1
      · rcases List.mem_cons.mp q with q | q
        · subst q;decide
        · exact h2 x q)
    have ht:((nm f++58 :: vl f)++[13,10]++R).take (nm f++58 :: vl f).length=nm f++58 :: vl f:=by rw [List.append_assoc,List.take_left]
    have hd:((nm f++58 :: vl f)++[13,10]++R).drop ((nm f++58 :: vl f).length+2)=R:=by
      have:(nm f++58 :: vl f).length+2=((nm f++58 :: vl f)++[13,10]).length:=(@List.length_append UInt8 (nm f++58 :: vl f) [13,10]).symm
      rw [this,List.drop_left]
    have hk:Lib.index (nm f++58 :: vl f) [58]=(nm f).length:=by
      have:=index_one 58 [] (vl f) (nm f) fun x hx=>(h1 x hx).2
      simpa using this
    have hpos:(nm f++58 :: vl f).length≠0:=by simp
    have hcol:(nm f++58 :: vl f).take (nm f).length=nm f:=List.take_left
    have hval:(nm f++58 :: vl f).drop ((nm f).length+1)=vl f:=by
      have:nm f++58 :: vl f=(nm f++[58])++vl f:=by simp
      rw [this,show (nm f).length+1=(nm f++[58]).length by simp,List.drop_left]
    unfold readF
    rw [hi,if_neg (by omega),if_neg (by omega),Int.toNat_natCast,ht,hk,if_neg (by omega),Int.toNat_natCast,hcol,hval,h3,h4,hd,decide_eq_true (show acc.length<12 by omega)]
    simp only [Bool.and_self,if_true]
    rw [← hR,readF_show fld ok nm vl body l (acc++[f]) n (fun g hg=>h g (List.mem_cons_of_mem _ hg)) (by simp;omega) (by omega)]
    simp
end Go.Proofs.YtigbabjhcihmaaaGreatDoor.Pl
namespace Go.Proofs.YtigbabjhcihmaaaGreatDoor.Fns
open Go Go.RowKit Go.Proofs Go.Proofs.YtigbabjhcihmaaaGreatDoor.Ev Go.Proofs.YtigbabjhcihmaaaGreatDoor.Pl
set_option linter.unusedVariables false
set_option linter.unusedSimpArgs false
set_option maxRecDepth 100000
abbrev maxVar:Nat:=562949953421311
theorem extract_data (s:ByteArray) (i j:Nat):(s.extract i j).data.toList=(s.data.toList.drop i).take (j-i):=by
  simp [ByteArray.data_extract,Array.toList_extract,List.extract_eq_take_drop]
theorem bt_some {s:ByteArray} {i:Nat} {b:UInt8} (h:s.data.toList[i]? = some b):bt s (i:Int)=(b.toNat:Int):=by
  have hi:i<s.data.toList.length:=by
    rcases Nat.lt_or_ge i s.data.toList.length with q | q
    · exact q
    · rw [List.getElem?_eq_none q] at h;cases h
  rw [bt_at s i hi]
  rw [List.getElem?_eq_getElem hi] at h
  cases h;rfl
theorem strOf_bytes (l:List UInt8):strOf (l.map fun b=>(b.toNat:Int))=⟨l.toArray⟩:=by
  apply bytes_ext
  unfold strOf
  simp only [List.map_map]
  exact (List.map_congr_left fun b _=>by simp).trans (List.map_id _)
theorem wr_u8 {n:Nat} (h:n<256):wr .u8 (n:Int)=(n:Int):=by
  rw [wr_eq]
  have h8:(2:Int) ^ 8=256:=by decide
  simp only [IntKind.wrap,IntKind.bits,IntKind.signed,Bool.false_and,Bool.false_eq_true,if_false,h8]
  omega
theorem div128 (n:Nat) (h:n<9223372036854775808):wrap64 ((n:Int).tdiv 128)=((n / 128:Nat):Int):=by
  have hd:(n:Int).tdiv 128=((n / 128:Nat):Int):=by rw [Int.tdiv_eq_ediv_of_nonneg (by omega)];omega
  rw [hd];exact w64 (by omega) (by omega)
theorem more128 (n:Nat):wr .u8 (wrap64 (128+(n:Int).tmod 128))=((UInt8.ofNat (128+n % 128)).toNat:Int):=by
  have h1:(n:Int).tmod 128=((n % 128:Nat):Int):=by rw [Int.tmod_eq_emod_of_nonneg (by omega)];omega
  have h2:(128:Int)+((n % 128:Nat):Int)=((128+n % 128:Nat):Int):=by omega
  have h3:128+n % 128<256:=by omega
  rw [h1,byte_nat h3,h2,w64 (by omega) (by omega)]
  exact wr_u8 h3
theorem mod128 (n:Nat) (h:n<256):(wrap64 (n:Int)).tmod 128=((n % 128:Nat):Int):=by
  rw [w64 (by omega) (by omega),Int.tmod_eq_emod_of_nonneg (by omega)];omega
theorem mul_add128 (V B:Nat) (h:V<4398046511104) (hB:B<128):wrap64 (wrap64 ((V:Int)*128)+(B:Int))=((B+128*V:Nat):Int):=by
  have h1:(V:Int)*128+(B:Int)=((B+128*V:Nat):Int):=by omega
  rw [w64 (n:=(V:Int)*128) (by omega) (by omega),h1]
  exact w64 (by omega) (by omega)
theorem var_val (k:Nat) (hk:fuel<k) (n:Nat) (hn:n≤maxVar):F150 k (n:Int)=some ⟨(varL n).toArray⟩:=by
  have hk':2097152<k:=hk
  have hn':n≤562949953421311:=hn
  unfold F150 F166
  rw [dT (show (0:Int)≤n by omega),dT (show (n:Int)≤562949953421311 by omega)]
  simp only [cond_true,Option.bind_some,Bool.not_true,cond_false]
  have key:∀ (m k n:Nat) (l:List UInt8),n<128 ^ (m+1)→n≤562949953421311→m<k→l.length+m≤7 →
      iter (σ:=Int × List Int × Unit) (fun rec5 x4=>(bif (decide ((128:Int)≤x4.1)) then (bif (decide ((128:Int)=0)) then none else (bif (decide (x4.2.1.length+([(wr .u8 ((wrap64 ((128:Int)+(x4.1.tmod (128:Int))))))]:List Int).length<most)) then (bif (decide ((128:Int)=0)) then none else (rec5 ((wrap64 (x4.1.tdiv (128:Int))),(x4.2.1++([(wr .u8 ((wrap64 ((128:Int)+(x4.1.tmod (128:Int))))))]:List Int)),()))) else none)) else (bif (decide (x4.2.1.length+([(wr .u8 (x4.1))]:List Int).length<most)) then some (strOf (x4.2.1++([(wr .u8 (x4.1))]:List Int))) else none))) k ((n:Int),l.map (fun b=>(b.toNat:Int)),())=some ⟨(l++varL n).toArray⟩:=by
    intro m
    induction m with
    | zero =>
      intro k n l g1 g2 hk hl
      obtain ⟨k',rfl⟩:∃ k',k=k'+1:=⟨k-1,by omega⟩
      have hs:n<128:=by simpa using g1
      simp only [iter]
      rw [dF (show ¬ (128:Int)≤n by omega),dT (show (l.map fun b=>(b.toNat:Int)).length+([wr .u8 (n:Int)]:List Int).length<most by rw [List.length_map];show l.length+1<8589934592;omega)]
      rw [varL_small hs,wr_u8 (by omega)]
      simp only [cond_false,cond_true]
      rw [← strOf_bytes]
      simp [byte_nat (show n<256 by omega)]
    | succ m ih =>
      intro k n l g1 g2 hk hl
      obtain ⟨k',rfl⟩:∃ k',k=k'+1:=⟨k-1,by omega⟩
      simp only [iter]
      have hm:(l.map fun b=>(b.toNat:Int)).length+1<8589934592:=by rw [List.length_map];omega
      by_cases hx:n<128
      · rw [dF (show ¬ (128:Int)≤n by omega),dT (show (l.map fun b=>(b.toNat:Int)).length+([wr .u8 (n:Int)]:List Int).length<most from hm)]
        rw [varL_small hx,wr_u8 (by omega)]
        simp only [cond_false,cond_true]
        rw [← strOf_bytes]
        simp [byte_nat (show n<256 by omega)]
      · have hpow:n / 128<128 ^ (m+1):=by rw [Nat.pow_succ] at g1;omega
        have hle:(l++[UInt8.ofNat (128+n % 128)]).length+m≤7:=by rw [List.length_append];show l.length+1+m≤7;omega
        have:=ih k' (n / 128) (l++[UInt8.ofNat (128+n % 128)]) hpow (by omega) (by omega) hle
        rw [dT (show (128:Int)≤n by omega),dF (show ¬ (128:Int)=0 by decide),div128 n (by omega),more128]
        rw [dT (show (l.map fun b=>(b.toNat:Int)).length+([((UInt8.ofNat (128+n % 128)).toNat:Int)]:List Int).length<most from hm)]
        simp only [cond_true,cond_false]
        rw [List.map_append,List.map_cons,List.map_nil] at this
        refine this.trans ?_
        rw [varL_big hx]
        simp
  exact key 7 k n [] (by omega) (by omega) (by omega) (by simp)
def ltext (s:ByteArray):List UInt8:=varL s.size++s.data.toList
theorem text_val (k:Nat) (hk:fuel<k) (s:ByteArray) (hs:s.size≤281474976710656):texted k s=⟨(ltext s).toArray⟩:=by
  have hm:s.size≤562949953421311:=by omega
  have hv:=var_val k hk s.size hm
  have hl:=var_len 7 s.size (by omega)
  unfold texted F149
  rw [hv,Option.bind_some]
  have hz:(ByteArray.mk (varL s.size).toArray).size=(varL s.size).length:=by rw [size_data]
  rw [fits (by rw [hz];omega)]
  apply bytes_ext
  simp [ltext]
theorem readVar_in (k:Nat) (hk:fuel<k) (s:ByteArray) (j:Nat) (h7:j≤7) (hj:j≤s.size) {α:Type} (fin:Int→Option α)
    {step:(Int × Int × Unit→Option α)→Int × Int × Unit→Option α}
    (hs:∀ (rec:Int × Int × Unit→Option α) (n:Int) (i:Nat) (b:UInt8),s.data.toList[i]? = some b→step rec (n,(i:Int),())=rec (wrap64 (wrap64 (n*128)+(wrap64 (b.toNat:Int)).tmod 128),wrap64 ((i:Int)-1),()))
    (he:∀ (rec:Int × Int × Unit→Option α) (n:Int),step rec (n,-1,())=fin n) :
    iter step k (0,wrap64 ((j:Int)-1),())=fin (valL (s.data.toList.take j):Int):=by
  have hk':2097152<k:=hk
  have hlen:s.data.toList.length=s.size:=(size_data s).symm
  have key:∀ (i k:Nat),i≤j→i<k→iter step k ((valL ((s.data.toList.take j).drop i):Int),(i:Int)-1,())=fin (valL (s.data.toList.take j):Int):=by
    intro i
    induction i with
    | zero =>
      intro k _ hk
      obtain ⟨k,rfl⟩:∃ m,k=m+1:=⟨k-1,by omega⟩
      simp only [iter]
      have:((0:Nat):Int)-1 = -1:=rfl
      rw [this,he];rfl
    | succ i ih =>
      intro k hi hk
      obtain ⟨k,rfl⟩:∃ m,k=m+1:=⟨k-1,by omega⟩
      simp only [iter]
      have hb:s.data.toList[i]? = some (s.data.toList[i]'(by omega)):=List.getElem?_eq_getElem (by omega)
      have e1:((i+1:Nat):Int)-1=(i:Int):=by omega
      rw [e1,hs _ _ i _ hb]
      have hd:(s.data.toList.take j).drop i=s.data.toList[i]'(by omega) :: (s.data.toList.take j).drop (i+1):=by
        rw [List.drop_eq_getElem_cons (by rw [List.length_take];omega)]
        congr 1
        simp
      have hv:=valL_lt ((s.data.toList.take j).drop (i+1))
      have hl:((s.data.toList.take j).drop (i+1)).length≤6:=by rw [List.length_drop,List.length_take];omega
      have hp:(128:Nat) ^ ((s.data.toList.take j).drop (i+1)).length≤128 ^ 6:=Nat.pow_le_pow_right (by decide) hl
      have hp6:(128:Nat) ^ 6=4398046511104:=by decide
      have hVb:valL ((s.data.toList.take j).drop (i+1))<4398046511104:=Nat.lt_of_lt_of_le hv (by rw [hp6] at hp;exact hp)
      clear hv hp hp6 hl
      generalize hV:valL ((s.data.toList.take j).drop (i+1))=V at hVb
      have hb256:=UInt8.toNat_lt (s.data.toList[i]'(by omega))
      have:=ih k (by omega) (by omega)
      rw [hd,valL,hV] at this
      generalize (s.data.toList[i]'(by omega)).toNat=B at this hb256
      rw [mod128 B hb256,mul_add128 V (B % 128) hVb (Nat.mod_lt _ (by decide)),w64 (n:=(i:Int)-1) (by omega) (by omega)]
      exact this
  have h0:=key j k (Nat.le_refl _) (by omega)
  rw [w64 (by omega) (by omega)]
  have:(s.data.toList.take j).drop j=[]:=List.drop_eq_nil_of_le (by rw [List.length_take];omega)
  rw [this] at h0
  exact h0
def ReadsVar (s:ByteArray) (r:Int × Int):Prop :=
  ∃ n m:Nat,r=((n:Int),(m:Int))∧n≤maxVar∧m≤s.size∧∀ v t,v≤maxVar→s.data.toList=varL v++t→n=v∧m=(varL v).length
theorem varL_inj {l:List UInt8} {v j:Nat} {t:List UInt8} (hl:l=varL v++t) {n:Nat} (hj:j≤l.length) (h:varL n=l.take j):n=v∧j=(varL v).length:=by
  have hjl:(varL n).length=j:=by rw [h,List.length_take];omega
  have hp:=var_pos n
  have hpv:=var_pos v
  have hget:∀ i,i<j→(varL n)[i]? = l[i]?:=fun i hi=>by rw [h,List.getElem?_take_of_lt hi]
  have hgv:∀ i,i<(varL v).length→l[i]? = (varL v)[i]?:=fun i hi=>by rw [hl,List.getElem?_append_left hi]
  have hjv:j=(varL v).length:=by
    rcases Nat.lt_trichotomy j (varL v).length with q | q | q
    · -- the last of n's bytes isn't the last of v's
      have hx:(varL n)[j-1]? = some ((varL n)[j-1]'(by omega)):=List.getElem?_eq_getElem (by omega)
      have h1:=(var_last n (j-1) _ (by omega) hx).1
      have h2:=var_more v (j-1) ((varL n)[j-1]'(by omega)) (by omega) (by rw [← hgv _ (by omega),← hget _ (by omega)];exact hx)
      omega
    · exact q
    · have hx:(varL v)[(varL v).length-1]? = some ((varL v)[(varL v).length-1]'(by omega)):=List.getElem?_eq_getElem (by omega)
      have h1:=(var_last v _ _ (by omega) hx).1
      have h2:=var_more n ((varL v).length-1) ((varL v)[(varL v).length-1]'(by omega)) (by omega) (by rw [hget _ (by omega),hgv _ (by omega)];exact hx)
      omega
  refine ⟨?_,hjv⟩
  have:varL n=varL v:=by
    rw [h,hl,hjv,List.take_left]
  rw [← val_var n,this,val_var]
theorem readVar_S (k:Nat) (hk:fuel<k) (s:ByteArray) (hs:s.size≤big):∃ r,F139 k s=some r∧ReadsVar s r:=by
  have hk':2097152<k:=hk
  have hs':s.size≤1048576:=hs
  have hlen:s.data.toList.length=s.size:=(size_data s).symm
  unfold F139
  have fin:∀ (j:Nat),1≤j→(∀ i,1≤i→i<j→i≤s.size→varL (valL (s.data.toList.take i))≠s.data.toList.take i)→(7<j∨s.size<j)→ReadsVar s ((0:Int),(0:Int)):=by
    intro j _ hno hend
    refine ⟨0,0,rfl,Nat.zero_le _,Nat.zero_le _,fun v t hv hl=>?_⟩
    exfalso
    have hv':v≤562949953421311:=hv
    have hlv:=var_len 6 v (by omega)
    have hpv:=var_pos v
    have hle:(varL v).length≤s.size:=by rw [← hlen,hl,List.length_append];omega
    refine hno (varL v).length hpv (by omega) hle ?_
    rw [hl,List.take_left,val_var]
  suffices h:∀ (d j k:Nat),8-j≤d→1≤j→d<k→(∀ i,1≤i→i<j→i≤s.size→varL (valL (s.data.toList.take i))≠s.data.toList.take i)→∃ r,iter (σ:=Int × Unit) _ k ((j:Int),())=some r∧ReadsVar s r from h 8 1 k (by omega) (Nat.le_refl _) (by omega) (fun i h1 h2=>by omega)
  intro d
  induction d with
  | zero =>
    intro j k hd h1 hk hno
    obtain ⟨k,rfl⟩:∃ m,k=m+1:=⟨k-1,by omega⟩
    simp only [iter]
    rw [dF (show ¬ (j:Int)≤7 by omega),cond_false]
    exact ⟨_,rfl,fin j h1 hno (Or.inl (by omega))⟩
  | succ d ih =>
    intro j k' hd h1 hk2 hno
    obtain ⟨k',rfl⟩:∃ m,k'=m+1:=⟨k'-1,by omega⟩
    simp only [iter]
    rcases Nat.lt_or_ge 7 j with h7 | h7
    · rw [dF (show ¬ (j:Int)≤7 by omega),cond_false]
      exact ⟨_,rfl,fin j h1 hno (Or.inl h7)⟩
    rcases Nat.lt_or_ge s.size j with hj | hj
    · rw [dT (show (j:Int)≤7 by omega),dF (show ¬ (j:Int)≤(s.size:Int) by omega),cond_true,cond_false]
      exact ⟨_,rfl,fin j h1 hno (Or.inr hj)⟩
    rw [dT (show (j:Int)≤7 by omega),dT (show (j:Int)≤(s.size:Int) by omega),cond_true,cond_true]
    have hV:=valL_lt (s.data.toList.take j)
    have hVl:(s.data.toList.take j).length=j:=by rw [List.length_take];omega
    have hV7:valL (s.data.toList.take j)≤maxVar:=by
      have:(128:Nat) ^ (s.data.toList.take j).length≤128 ^ 7:=Nat.pow_le_pow_right (by decide) (by omega)
      have h7:(128:Nat) ^ 7=562949953421312:=by decide
      show _≤562949953421311
      omega
    rw [readVar_in k hk s j h7 hj _ (fun rec n i b hb=>by
      have hi:i<s.size:=by
        rcases Nat.lt_or_ge i s.data.toList.length with q | q
        · omega
        · rw [List.getElem?_eq_none q] at hb;cases hb
      simp only
      rw [dT (show (0:Int)≤(i:Int) by omega),dT (show 0≤(i:Int)∧(i:Int)<(s.size:Int) by omega),dF (show ¬ (128:Int)=0 by decide),bt_some hb]
      rfl) (fun rec n=>by
      simp only
      rw [dF (show ¬ (0:Int) ≤ -1 by decide),cond_false])]
    rw [dT (show (0:Int)≤0∧(0:Int)≤(j:Int)∧(j:Int)≤(s.size:Int) by omega),cond_true,var_val k hk _ hV7,Option.bind_some,Int.toNat_natCast]
    by_cases he:varL (valL (s.data.toList.take j))=s.data.toList.take j
    · have hext:(ByteArray.mk (varL (valL (s.data.toList.take j))).toArray)=s.extract (0:Int).toNat j:=by
        apply bytes_ext
        rw [extract_data]
        simpa using he
      rw [dT hext,cond_true]
      refine ⟨_,rfl,valL (s.data.toList.take j),j,rfl,hV7,hj,fun v t hv hl=>?_⟩
      exact varL_inj hl (by omega) he
    · have hext:¬ (ByteArray.mk (varL (valL (s.data.toList.take j))).toArray)=s.extract (0:Int).toNat j:=fun e=>he (by
        have:=congrArg (·.data.toList) e
        simp only [extract_data] at this
        simpa using this)
      rw [dF hext,cond_false,w64 (n:=(j:Int)+1) (by omega) (by omega)]
      have:=ih (j+1) k' (by omega) (by omega) (by omega) (fun i g1 g2 g3=>by
        rcases Nat.lt_or_ge i j with q | q
        · exact hno i g1 q g3
        · have:i=j:=by omega
          subst this;exact he)
      simpa using this
end Go.Proofs.YtigbabjhcihmaaaGreatDoor.Fns
namespace Go.Proofs.YtigbabjhcihmaaaGreatDoor.Fns
open Go Go.RowKit Go.Proofs Go.Proofs.YtigbabjhcihmaaaGreatDoor.Ev Go.Proofs.YtigbabjhcihmaaaGreatDoor.Pl
set_option linter.unusedVariables false
set_option linter.unusedSimpArgs false
set_option maxRecDepth 100000
theorem or_add {n B i:Nat} (hi:i≤6) (hn:n<128 ^ i) (hB:B<256):bitsOr .i64 (n:Int) (shiftL .i64 (bitsAnd .i64 (wrap64 (B:Int)) 127) (wrap64 (7*(i:Int))))=((n+(B % 128)*128 ^ i:Nat):Int):=by
  have hp:(128:Nat) ^ i=2 ^ (7*i):=by rw [Nat.pow_mul]
  have hle:(2:Nat) ^ (7*i)≤2 ^ 42:=Nat.pow_le_pow_right (by decide) (by omega)
  have h42:(2:Nat) ^ 42=4398046511104:=by decide
  rw [w64 (n:=(B:Int)) (by omega) (by omega),and127 _ (by omega) (by omega),w64 (n:=7*(i:Int)) (by omega) (by omega)]
  have h1:shiftL .i64 ((B:Int) % 128) (7*(i:Int))=((B % 128*2 ^ (7*i):Nat):Int):=by
    unfold shiftL
    have e1:(min (7*(i:Int)).toNat IntKind.i64.bits)=7*i:=by
      have:IntKind.i64.bits=64:=rfl
      rw [this];omega
    rw [e1]
    have hb:B % 128*2 ^ (7*i)≤127*4398046511104:=Nat.mul_le_mul (by omega) (by omega)
    have e2:((B:Int) % 128)*2 ^ (7*i)=((B % 128*2 ^ (7*i):Nat):Int):=by push_cast;rfl
    rw [e2]
    show wrap64 _=_
    exact w64 (by omega) (by omega)
  rw [h1,hp]
  rw [hp] at hn
  unfold bitsOr
  rw [stuckOn_eq,stuckOn_eq]
  have hb:B % 128*2 ^ (7*i)≤127*4398046511104:=Nat.mul_le_mul (by omega) (by omega)
  have h2:(BitVec.ofInt IntKind.i64.bits (n:Int) ||| BitVec.ofInt IntKind.i64.bits ((B % 128*2 ^ (7*i):Nat):Int)).toNat=n+B % 128*2 ^ (7*i):=by
    show (BitVec.ofInt 64 _ ||| BitVec.ofInt 64 _).toNat=_
    rw [BitVec.toNat_or,toNat_ofInt64 _ (by omega) (by omega),toNat_ofInt64 _ (by omega) (by omega),Int.toNat_natCast,Int.toNat_natCast,Nat.or_comm]
    have:=Nat.shiftLeft_add_eq_or_of_lt hn (B % 128)
    rw [Nat.shiftLeft_eq] at this
    rw [← this];omega
  rw [h2]
  show wrap64 _=_
  exact w64 (by omega) (by omega)
theorem readVar_I (k:Nat) (hk:fuel<k) (s:ByteArray) (hs:s.size≤big):∃ r,F152 k s=some r∧ReadsVar s r:=by
  have hk':2097152<k:=hk
  have hs':s.size≤1048576:=hs
  have hlen:s.data.toList.length=s.size:=(size_data s).symm
  have ends:∀ (i:Nat),(∀ j b,j<i→s.data.toList[j]? = some b→128≤b.toNat)→∀ v t,s.data.toList=varL v++t→i<(varL v).length:=by
    intro i hi v t hl
    rcases Nat.lt_or_ge i (varL v).length with q | q
    · exact q
    · exfalso
      have hp:=var_pos v
      have hx:(varL v)[(varL v).length-1]? = some ((varL v)[(varL v).length-1]'(by omega)):=List.getElem?_eq_getElem (by omega)
      have h1:=(var_last v _ _ (by omega) hx).1
      have h2:=hi ((varL v).length-1) _ (by omega) (by rw [hl,List.getElem?_append_left (by omega)];exact hx)
      omega
  have none':∀ (i:Nat),(∀ j b,j<i→s.data.toList[j]? = some b→128≤b.toNat)→(7≤i∨s.size≤i)→ReadsVar s ((0:Int),(0:Int)):=by
    intro i hi he
    refine ⟨0,0,rfl,Nat.zero_le _,Nat.zero_le _,fun v t hv hl=>?_⟩
    exfalso
    have h1:=ends i hi v t hl
    have hv':v≤562949953421311:=hv
    have h2:=var_len 6 v (by omega)
    have h3:(varL v).length≤s.size:=by rw [← hlen,hl,List.length_append];omega
    omega
  unfold F152
  suffices h:∀ (d i k:Nat),8-i≤d→d<k→(∀ j b,j<i→s.data.toList[j]? = some b→128≤b.toNat)→i≤7→∃ r,iter (σ:=Int × Int × Unit) _ k ((valL (s.data.toList.take i):Int),(i:Int),())=some r∧ReadsVar s r from h 8 0 k (by omega) (by omega) (fun j b hj=>by omega) (by omega)
  intro d
  induction d with
  | zero=>intro i k hd;omega
  | succ d ih =>
    intro i k' hd hk2 hi hi7
    obtain ⟨k',rfl⟩:∃ m,k'=m+1:=⟨k'-1,by omega⟩
    simp only [iter]
    rcases Nat.lt_or_ge i 7 with h7 | h7
    case inr =>
      rw [dF (show ¬ (i:Int)<7 by omega),cond_false]
      exact ⟨_,rfl,none' i hi (Or.inl h7)⟩
    rcases Nat.lt_or_ge i s.size with hj | hj
    case inr =>
      rw [dT (show (i:Int)<7 by omega),dF (show ¬ (i:Int)<(s.size:Int) by omega),cond_true,cond_false]
      exact ⟨_,rfl,none' i hi (Or.inr hj)⟩
    have hb:s.data.toList[i]? = some (s.data.toList[i]'(by omega)):=List.getElem?_eq_getElem (by omega)
    have hlt:i<s.data.toList.length:=by omega
    have hV:=valL_lt (s.data.toList.take i)
    have hVl:(s.data.toList.take i).length=i:=by rw [List.length_take];omega
    rw [hVl] at hV
    have hsu:=valL_take_succ s.data.toList i hlt
    have hV2:=valL_lt (s.data.toList.take (i+1))
    have hVl2:(s.data.toList.take (i+1)).length=i+1:=by rw [List.length_take];omega
    rw [hVl2] at hV2
    have hp7:(128:Nat) ^ (i+1)≤128 ^ 7:=Nat.pow_le_pow_right (by decide) (by omega)
    have h7':(128:Nat) ^ 7=562949953421312:=by decide
    rw [dT (show (i:Int)<7 by omega),dT (show (i:Int)<(s.size:Int) by omega),dT (show 0≤(i:Int)∧(i:Int)<(s.size:Int) by omega),bt_some hb]
    generalize hB:s.data.toList[i]'(by omega)=b at hsu hb
    have hb256:=UInt8.toNat_lt b
    rw [or_add (by omega) hV hb256,← hsu,w64 (n:=7*(i:Int)) (by omega) (by omega),dT (show 0≤7*(i:Int) by omega),w64 (n:=(b.toNat:Int)) (by omega) (by omega),w64 (n:=(i:Int)+1) (by omega) (by omega)]
    simp only [cond_true]
    rcases Nat.lt_or_ge 127 b.toNat with hm | hm
    · rw [dT (show (127:Int)<(b.toNat:Int) by omega),cond_true]
      have:=ih (i+1) k' (by omega) (by omega) (fun j c hj hc=>by
        rcases Nat.lt_or_ge j i with q | q
        · exact hi j c q hc
        · have:j=i:=by omega
          subst this
          rw [hb] at hc;cases hc;omega) (by omega)
      simpa using this
    rw [dF (show ¬ (127:Int)<(b.toNat:Int) by omega),cond_false,dF (show ¬ (562949953421311:Int)<(valL (s.data.toList.take (i+1)):Int) by omega)]
    have here:∀ v t,s.data.toList=varL v++t→(varL v).length=i+1:=by
      intro v t hl
      have h1:=ends i hi v t hl
      rcases Nat.lt_or_ge (i+1) (varL v).length with q | q
      · exfalso
        have:=var_more v i b q (by rw [← hb,hl,List.getElem?_append_left (by omega)])
        omega
      · omega
    have good:ReadsVar s ((valL (s.data.toList.take (i+1)):Int),(i:Int)+1):=by
      refine ⟨valL (s.data.toList.take (i+1)),i+1,rfl,by show _≤562949953421311;omega,hj,fun v t hv hl=>?_⟩
      have:=here v t hl
      refine ⟨?_,this.symm⟩
      rw [← this,hl,List.take_left,val_var]
    by_cases h0:b.toNat=0
    · rw [dT (show (b.toNat:Int)=0 by omega),cond_true]
      by_cases hi0:i=0
      · subst hi0
        rw [dF (show ¬ (0:Int)<((0:Nat):Int) by decide)]
        exact ⟨_,rfl,good⟩
      · rw [dT (show (0:Int)<(i:Int) by omega),cond_true]
        refine ⟨_,rfl,0,0,rfl,Nat.zero_le _,Nat.zero_le _,fun v t hv hl=>?_⟩
        exfalso
        have h1:=here v t hl
        exact hi0 ((var_last v i b (by omega) (by rw [← hb,hl,List.getElem?_append_left (by omega)])).2 h0)
    · rw [dF (show ¬ (b.toNat:Int)=0 by omega),cond_false]
      exact ⟨_,rfl,good⟩
end Go.Proofs.YtigbabjhcihmaaaGreatDoor.Fns
namespace Go.Proofs.YtigbabjhcihmaaaGreatDoor.Fns
open Go Go.RowKit Go.Proofs Go.Proofs.YtigbabjhcihmaaaGreatDoor.Ev Go.Proofs.YtigbabjhcihmaaaGreatDoor.Pl
set_option linter.unusedVariables false
set_option linter.unusedSimpArgs false
set_option maxRecDepth 100000
def ReadsNum (s:ByteArray) (q:Int) (r:Int × Int):Prop :=
  (r=(0,-1)∨∃ p n m:Nat,q=(p:Int)∧r=((n:Int),(m:Int))∧n≤maxVar∧p<m∧m≤s.size) ∧
  ∀ (p v:Nat) t,q=(p:Int)→p≤s.size→v≤maxVar→s.data.toList.drop p=varL v++t→r=((v:Int),((p+(varL v).length:Nat):Int))
theorem tail_data (s:ByteArray) (p:Nat):(s.extract p s.size).data.toList=s.data.toList.drop p:=by
  rw [extract_data,List.take_of_length_le (by rw [List.length_drop,← size_data];omega)]
theorem tail_size (s:ByteArray) (p:Nat):(s.extract p s.size).size=s.size-p:=by
  rw [size_data,tail_data,List.length_drop,← size_data]
theorem num_S (k:Nat) (hk:fuel<k) (s:ByteArray) (hs:s.size≤big) (q:Int) (hq:q≤(s.size:Int)):∃ r,F58 k s q=some r∧ReadsNum s q r:=by
  have hs':s.size≤1048576:=hs
  unfold F58
  by_cases h0:q<0
  · rw [dT h0,cond_true]
    exact ⟨_,rfl,Or.inl rfl,fun p v t h=>by omega⟩
  rw [dF h0,cond_false]
  obtain ⟨p,rfl⟩:∃ p:Nat,q=p:=⟨q.toNat,by omega⟩
  rw [dT (show 0≤(p:Int)∧(p:Int)≤(s.size:Int)∧(s.size:Int)≤(s.size:Int) by omega),cond_true,Int.toNat_natCast,Int.toNat_natCast]
  obtain ⟨r,h1,n,m,rfl,h3,h4,h5⟩:=readVar_S k hk (s.extract p s.size) (by rw [tail_size];show _≤1048576;omega)
  rw [tail_size] at h4
  rw [tail_data] at h5
  rw [h1,Option.bind_some]
  by_cases hm:m=0
  · rw [dT (show (m:Int)=0 by omega),cond_true]
    refine ⟨_,rfl,Or.inl rfl,fun p' v t hp hle hv hd=>?_⟩
    exfalso
    have:p=p':=by omega
    subst this
    have:=(h5 v t hv hd).2
    have:=var_pos v
    omega
  · rw [dF (show ¬ (m:Int)=0 by omega),cond_false,w64 (n:=(p:Int)+(m:Int)) (by omega) (by omega)]
    refine ⟨_,rfl,Or.inr ⟨p,n,p+m,rfl,by rw [Int.natCast_add],h3,by omega,by omega⟩,fun p' v t hp hle hv hd=>?_⟩
    have:p=p':=by omega
    subst this
    obtain ⟨e1,e2⟩:=h5 v t hv hd
    rw [e1,e2,Int.natCast_add]
def ReadsText (s:ByteArray) (q:Int) (r:ByteArray × Int):Prop :=
  (r=(ByteArray.mk #[],-1)∨∃ p m:Nat,q=(p:Int)∧r.2=(m:Int)∧p+r.1.size<m∧m≤s.size) ∧
  ∀ (p:Nat) x t,q=(p:Int)→p≤s.size→s.data.toList.drop p=ltext x++t→r=(x,((p+(ltext x).length:Nat):Int))
theorem read_S (k:Nat) (hk:fuel<k) (s:ByteArray) (hs:s.size≤big) (q:Int) (hq:q≤(s.size:Int)):∃ r,F57 k s q=some r∧ReadsText s q r:=by
  have hs':s.size≤1048576:=hs
  have hlen:s.data.toList.length=s.size:=(size_data s).symm
  obtain ⟨r,h1,h2,h3⟩:=num_S k hk s hs q hq
  unfold F57
  rw [h1,Option.bind_some]
  have exact':∀ (p:Nat) x t,q=(p:Int)→p≤s.size→s.data.toList.drop p=ltext x++t→r=((x.size:Int),((p+(varL x.size).length:Nat):Int))∧p+(ltext x).length≤s.size:=by
    intro p x t hp hle hd
    have hx:(ltext x).length≤s.size-p:=by
      have:=congrArg List.length hd
      rw [List.length_drop,List.length_append,hlen] at this
      omega
    have hxl:(ltext x).length=(varL x.size).length+x.size:=by rw [ltext,List.length_append,← size_data]
    refine ⟨h3 p x.size (x.data.toList++t) hp hle (by show _≤562949953421311;omega) (by rw [hd,ltext,List.append_assoc]),by omega⟩
  rcases h2 with rfl | ⟨p,n,m,rfl,rfl,hn,hpm,hms⟩
  · simp only
    rw [dT (show (-1:Int)<0 by decide),cond_true]
    refine ⟨_,rfl,Or.inl rfl,fun p x t hp hle hd=>?_⟩
    exfalso
    have h2:=congrArg Prod.snd (exact' p x t hp hle hd).1
    simp only at h2
    omega
  · have hn':n≤562949953421311:=hn
    simp only
    rw [dF (show ¬ (m:Int)<0 by omega),cond_false,w64 (n:=(s.size:Int)-(m:Int)) (by omega) (by omega),w64 (n:=(m:Int)+(n:Int)) (by omega) (by omega)]
    by_cases hb:(s.size:Int)-(m:Int)<(n:Int)
    · rw [dT hb,cond_true]
      refine ⟨_,rfl,Or.inl rfl,fun p' x t hp hle hd=>?_⟩
      exfalso
      obtain ⟨e1,e2⟩:=exact' p' x t hp hle hd
      have hxl:(ltext x).length=(varL x.size).length+x.size:=by rw [ltext,List.length_append,← size_data]
      have q1:=congrArg Prod.fst e1
      have q2:=congrArg Prod.snd e1
      simp only at q1 q2
      omega
    · rw [dF hb,cond_false,dT (show 0≤(m:Int)∧(m:Int)≤(m:Int)+(n:Int)∧(m:Int)+(n:Int)≤(s.size:Int) by omega),cond_true]
      have hto:((m:Int)+(n:Int)).toNat=m+n:=by omega
      rw [hto,Int.toNat_natCast]
      have hsz:(s.extract m (m+n)).size=n:=by
        rw [size_data,extract_data,List.length_take,List.length_drop,hlen];omega
      refine ⟨_,rfl,Or.inr ⟨p,m+n,rfl,by rw [Int.natCast_add],by rw [hsz];omega,by omega⟩,fun p' x t hp hle hd=>?_⟩
      obtain ⟨e1,e2⟩:=exact' p' x t hp hle hd
      have hxl:(ltext x).length=(varL x.size).length+x.size:=by rw [ltext,List.length_append,← size_data]
      have q1:=congrArg Prod.fst e1
      have q2:=congrArg Prod.snd e1
      simp only at q1 q2
      have hp':p=p':=by omega
      subst hp'
      have hn2:n=x.size:=by omega
      have hm2:m=p+(varL x.size).length:=by omega
      refine Prod.ext (bytes_ext ?_) (by simp only;omega)
      simp only
      rw [extract_data,hm2,← List.drop_drop,hd,ltext,List.append_assoc,List.drop_left,hn2,show p+(varL x.size).length+x.size-(p+(varL x.size).length)=x.data.toList.length by rw [← size_data];omega,List.take_left]
def ScansNum (p:D3) (most:Nat) (r:D3 × Int):Prop :=
  r.1.1.size≤p.1.size∧(∃ n:Nat,r.2=(n:Int)∧n≤most)∧(r.1.2=false→p.2=false∧r.1.1.size+1≤p.1.size) ∧
  ∀ v t,p.2=false→v≤maxVar→v≤most→p.1.data.toList=varL v++t→r=((⟨t.toArray⟩,false),(v:Int))
theorem num_I (k:Nat) (hk:fuel<k) (p:D3) (hs:p.1.size≤big) (most:Nat):∃ r,F62 k p (most:Int)=some r∧ScansNum p most r:=by
  have hs':p.1.size≤1048576:=hs
  obtain ⟨r,h1,n,m,rfl,h3,h4,h5⟩:=readVar_I k hk p.1 hs
  unfold F62
  rw [h1,Option.bind_some]
  cases hp:p.2 with
  | true =>
    rw [cond_true]
    exact ⟨_,rfl,Nat.le_refl _,⟨0,rfl,Nat.zero_le _⟩,(fun h=>by cases h),fun v t h=>by rw [hp] at h;cases h⟩
  | false =>
    rw [cond_false]
    by_cases hm:m=0
    · rw [dT (show (m:Int)=0 by omega),cond_true]
      refine ⟨_,rfl,Nat.le_refl _,⟨0,rfl,Nat.zero_le _⟩,(fun h=>by cases h),fun v t _ hv _ hd=>?_⟩
      exfalso
      have:=(h5 v t hv hd).2
      have:=var_pos v
      omega
    rw [dF (show ¬ (m:Int)=0 by omega),cond_false]
    by_cases hn:most<n
    · rw [dT (show (most:Int)<(n:Int) by omega),cond_true]
      refine ⟨_,rfl,Nat.le_refl _,⟨0,rfl,Nat.zero_le _⟩,(fun h=>by cases h),fun v t _ hv hv2 hd=>?_⟩
      exfalso
      have:=(h5 v t hv hd).1
      omega
    · rw [dF (show ¬ (most:Int)<(n:Int) by omega),cond_false,dT (show 0≤(m:Int)∧(m:Int)≤(p.1.size:Int)∧(p.1.size:Int)≤(p.1.size:Int) by omega),cond_true,Int.toNat_natCast,Int.toNat_natCast]
      refine ⟨_,rfl,by rw [tail_size];omega,⟨n,rfl,by omega⟩,fun _=>⟨hp,by simp only [tail_size];omega⟩,fun v t _ hv hv2 hd=>?_⟩
      obtain ⟨e1,e2⟩:=h5 v t hv hd
      have:p.1.extract m p.1.size=⟨t.toArray⟩:=bytes_ext (by
        rw [tail_data,hd,e2,List.drop_left])
      rw [this,e1]
def ScansText (p:D3) (r:D3 × ByteArray):Prop :=
  r.1.1.size+r.2.size≤p.1.size∧(r.1.2=false→p.2=false∧r.1.1.size+r.2.size+1≤p.1.size)∧∀ x t,p.2=false→p.1.data.toList=ltext x++t→r=((⟨t.toArray⟩,false),x)
theorem text_I (k:Nat) (hk:fuel<k) (p:D3) (hs:p.1.size≤big):∃ r,F61 k p=some r∧ScansText p r:=by
  have hs':p.1.size≤1048576:=hs
  have hlen:p.1.data.toList.length=p.1.size:=(size_data p.1).symm
  obtain ⟨r,h1,h2,⟨n,h3,h4⟩,h6,h5⟩:=num_I k hk p hs maxVar
  have h1':F62 k p (562949953421311:Int)=some r:=h1
  unfold F61
  rw [h1',Option.bind_some]
  have exact':∀ x t,p.2=false→p.1.data.toList=ltext x++t→r=((⟨(x.data.toList++t).toArray⟩,false),(x.size:Int)):=by
    intro x t hp hd
    have hx:x.size≤maxVar:=by
      have:=congrArg List.length hd
      rw [ltext,List.length_append,List.length_append,hlen] at this
      have hx:=size_data x
      show x.size≤562949953421311
      omega
    exact h5 x.size (x.data.toList++t) hp hx hx (by rw [hd,ltext,List.append_assoc])
  obtain ⟨⟨rest,bad⟩,rn⟩:=r
  simp only at h2 h3 h5 h6 ⊢
  subst h3
  have e0:(ByteArray.mk #[]).size=0:=rfl
  cases bad with
  | true =>
    rw [cond_true]
    refine ⟨_,rfl,by simp only [e0];omega,(fun h=>by cases h),fun x t hp hd=>?_⟩
    have:=congrArg (fun z=>z.1.2) (exact' x t hp hd)
    cases this
  | false =>
    rw [cond_false]
    by_cases hb:rest.size<n
    · rw [dT (show (rest.size:Int)<(n:Int) by omega),cond_true]
      refine ⟨_,rfl,by simp only [e0];omega,(fun h=>by cases h),fun x t hp hd=>?_⟩
      exfalso
      have e:=exact' x t hp hd
      have e1:=congrArg (fun z=>z.1.1) e
      have e2:=congrArg (fun z=>z.2) e
      simp only at e1 e2
      have:rest.size=x.size+t.length:=by rw [e1,size_data];simp [← size_data]
      omega
    · rw [dF (show ¬ (rest.size:Int)<(n:Int) by omega),cond_false,dT (show (0:Int)≤0∧(0:Int)≤(n:Int)∧(n:Int)≤(rest.size:Int) by omega),dT (show 0≤(n:Int)∧(n:Int)≤(rest.size:Int)∧(rest.size:Int)≤(rest.size:Int) by omega),cond_true,cond_true]
      have hz:(0:Int).toNat=0:=rfl
      rw [hz,Int.toNat_natCast,Int.toNat_natCast]
      have hsz:(rest.extract 0 n).size=n:=by
        rw [size_data,extract_data,List.length_take,List.length_drop,← size_data];omega
      refine ⟨_,rfl,by simp only [tail_size,hsz];omega,fun _=>⟨(h6 rfl).1,by have:=(h6 rfl).2;simp only [tail_size,hsz];omega⟩,fun x t hp hd=>?_⟩
      have e:=exact' x t hp hd
      have e1:=congrArg (fun z=>z.1.1) e
      have e2:=congrArg (fun z=>z.2) e
      simp only at e1 e2
      have hn:n=x.data.toList.length:=by rw [← size_data];omega
      have q1:rest.extract n rest.size=⟨t.toArray⟩:=bytes_ext (by rw [tail_data,e1,hn];simp)
      have q2:rest.extract 0 n=x:=bytes_ext (by rw [extract_data,e1,hn];simp)
      rw [q1,q2]
end Go.Proofs.YtigbabjhcihmaaaGreatDoor.Fns
namespace Go.Proofs.YtigbabjhcihmaaaGreatDoor.Fns
open Go Go.RowKit Go.Proofs Go.Proofs.YtigbabjhcihmaaaGreatDoor.Ev Go.Proofs.YtigbabjhcihmaaaGreatDoor.Pl
set_option linter.unusedVariables false
set_option linter.unusedSimpArgs false
set_option maxRecDepth 100000
theorem occ_two (d:List UInt8) (a b:UInt8) (j:Nat):Lib.occAt d [a,b] j=(decide (d[j]? = some a)&&decide (d[j+1]? = some b)):=by
  unfold Lib.occAt
  rw [← List.getElem?_drop (xs:=d) (i:=j) (j:=1),show d[j]? = (d.drop j)[0]? by rw [List.getElem?_drop];rfl]
  generalize d.drop j=e
  cases e with
  | nil=>simp
  | cons x e =>
    cases e with
    | nil=>simp [List.isPrefixOf]
    | cons y e =>
      simp only [List.isPrefixOf_cons_cons,List.isPrefixOf_nil_left,Bool.and_true,List.getElem?_cons_zero,List.getElem?_cons_succ,Option.some.injEq]
      rw [Bool.eq_iff_iff]
      simp only [Bool.and_eq_true,beq_iff_eq,decide_eq_true_eq]
      exact ⟨fun h=>⟨h.1.symm,h.2.symm⟩,fun h=>⟨h.1.symm,h.2.symm⟩⟩
theorem occ_sub (d sub:List UInt8) (j:Nat):Lib.occAt d sub j=true↔(d.drop j).take sub.length=sub:=by
  unfold Lib.occAt
  rw [List.isPrefixOf_iff_prefix,List.prefix_iff_eq_take]
  exact eq_comm
def lineAt (s:ByteArray) (p:Nat):ByteArray × Int :=
  if Lib.index (s.data.toList.drop p) [13,10]<0 then (ByteArray.mk #[],-1)
  else (s.extract p (p+(Lib.index (s.data.toList.drop p) [13,10]).toNat),((p+(Lib.index (s.data.toList.drop p) [13,10]).toNat+2:Nat):Int))
theorem line_S (k:Nat) (hk:fuel<k) (s:ByteArray) (hs:s.size≤big) (p:Nat) (hp:p≤s.size):F141 k s (p:Int)=some (lineAt s p):=by
  have hk':2097152<k:=hk
  have hs':s.size≤1048576:=hs
  have hlen:s.data.toList.length=s.size:=(size_data s).symm
  have hdl:(s.data.toList.drop p).length=s.size-p:=by rw [List.length_drop,hlen]
  unfold F141
  suffices h:∀ (d i k:Nat),s.size-(p+i)≤d→d<k→p+i≤s.size→(∀ j,j<i→Lib.occAt (s.data.toList.drop p) [13,10] j=false)→iter (σ:=Int × Unit) _ k (((p+i:Nat):Int),())=some (lineAt s p) from h s.size 0 k (by omega) (by omega) (by omega) (fun j hj=>by omega)
  intro d
  induction d with
  | zero =>
    intro i k hd hk hi hno
    obtain ⟨k,rfl⟩:∃ m,k=m+1:=⟨k-1,by omega⟩
    simp only [iter]
    rw [w64 (n:=((p+i:Nat):Int)+1) (by omega) (by omega),dF (show ¬ ((p+i:Nat):Int)+1<(s.size:Int) by omega),cond_false]
    unfold lineAt
    rw [Lib.index_none (fun j hj=>by
      rcases Nat.lt_or_ge j i with q | q
      · exact hno j q
      · rw [occ_two,List.getElem?_eq_none (by rw [hdl];omega)];rfl)]
    rfl
  | succ d ih =>
    intro i k' hd hk2 hi hno
    obtain ⟨k',rfl⟩:∃ m,k'=m+1:=⟨k'-1,by omega⟩
    simp only [iter]
    rw [w64 (n:=((p+i:Nat):Int)+1) (by omega) (by omega),w64 (n:=((p+i:Nat):Int)+2) (by omega) (by omega)]
    by_cases hj:p+i+1<s.size
    case neg =>
      rw [dF (show ¬ ((p+i:Nat):Int)+1<(s.size:Int) by omega),cond_false]
      unfold lineAt
      rw [Lib.index_none (fun j hj2=>by
        rcases Nat.lt_or_ge j i with q | q
        · exact hno j q
        · rw [occ_two,List.getElem?_eq_none (l:=s.data.toList.drop p) (i:=j+1) (by rw [hdl];omega)];simp)]
      rfl
    have g1:s.data.toList[p+i]? = some (s.data.toList[p+i]'(by omega)):=List.getElem?_eq_getElem (by omega)
    have g2:s.data.toList[p+i+1]? = some (s.data.toList[p+i+1]'(by omega)):=List.getElem?_eq_getElem (by omega)
    have c1:((p+i:Nat):Int)+1=((p+i+1:Nat):Int):=by omega
    rw [dT (show ((p+i:Nat):Int)+1<(s.size:Int) by omega),dT (show 0≤((p+i:Nat):Int)∧((p+i:Nat):Int)<(s.size:Int) by omega),dT (show 0≤((p+i:Nat):Int)+1∧((p+i:Nat):Int)+1<(s.size:Int) by omega),c1,bt_some g1,bt_some g2]
    simp only [cond_true]
    have hocc:Lib.occAt (s.data.toList.drop p) [13,10] i=(decide (((s.data.toList[p+i]'(by omega)).toNat:Int)=13)&&decide (((s.data.toList[p+i+1]'(by omega)).toNat:Int)=10)):=by
      rw [occ_two,List.getElem?_drop,List.getElem?_drop,g1,← Nat.add_assoc,g2]
      congr 1
      · rw [decide_eq_decide,Option.some.injEq]
        constructor
        · intro e;rw [e];rfl
        · intro e;exact UInt8.toNat_inj.mp (by show _=13;omega)
      · rw [decide_eq_decide,Option.some.injEq]
        constructor
        · intro e;rw [e];rfl
        · intro e;exact UInt8.toNat_inj.mp (by show _=10;omega)
    have hrec:Lib.occAt (s.data.toList.drop p) [13,10] i=false→iter (σ:=Int × Unit) _ k' (((p+i+1:Nat):Int),())=some (lineAt s p):=fun q=>by
      have:=ih (i+1) k' (by omega) (by omega) (by omega) (fun j hj=>by
        rcases Nat.lt_or_ge j i with q2 | q2
        · exact hno j q2
        · have:j=i:=by omega
          subst this;exact q)
      rw [show p+(i+1)=p+i+1 by omega] at this
      exact this
    cases h1:decide (((s.data.toList[p+i]'(by omega)).toNat:Int)=13) with
    | false=>rw [cond_false];exact hrec (by rw [hocc,h1];rfl)
    | true =>
      rw [cond_true]
      cases h2:decide (((s.data.toList[p+i+1]'(by omega)).toNat:Int)=10) with
      | false=>rw [cond_false];exact hrec (by rw [hocc,h1,h2];rfl)
      | true =>
        rw [cond_true,dT (show 0≤(p:Int)∧(p:Int)≤((p+i:Nat):Int)∧((p+i:Nat):Int)≤(s.size:Int) by omega),cond_true]
        have hi0:Lib.index (s.data.toList.drop p) [13,10]=(i:Int):=Lib.index_first (by rw [hdl];omega) (by rw [hocc,h1,h2];rfl) hno
        unfold lineAt
        rw [hi0,if_neg (by omega),Int.toNat_natCast,Int.toNat_natCast,Int.toNat_natCast]
        rfl
theorem colon_S (k:Nat) (hk:fuel<k) (s:ByteArray) (hs:s.size≤big):F223 k s=some (Lib.index s.data.toList [58]):=by
  have hk':2097152<k:=hk
  have hs':s.size≤1048576:=hs
  have hlen:s.data.toList.length=s.size:=(size_data s).symm
  have hocc:∀ i,Lib.occAt s.data.toList [58] i=decide (s.data.toList[i]? = some 58):=fun i=>by
    rw [Bool.eq_iff_iff,occ_sub,decide_eq_true_eq]
    rw [show s.data.toList[i]? = (s.data.toList.drop i)[0]? by rw [List.getElem?_drop];rfl]
    generalize s.data.toList.drop i=e
    cases e with
    | nil=>simp
    | cons x e=>simp
  unfold F223
  suffices h:∀ (d i k:Nat),s.size-i≤d→d<k→i≤s.size→(∀ j,j<i→Lib.occAt s.data.toList [58] j=false)→iter (σ:=Int × Unit) _ k ((i:Int),())=some (Lib.index s.data.toList [58]) from h s.size 0 k (by omega) (by omega) (by omega) (fun j hj=>by omega)
  intro d
  induction d with
  | zero =>
    intro i k hd hk hi hno
    obtain ⟨k,rfl⟩:∃ m,k=m+1:=⟨k-1,by omega⟩
    simp only [iter]
    rw [dF (show ¬ (i:Int)<(s.size:Int) by omega),cond_false,Lib.index_none (fun j hj=>by
      rcases Nat.lt_or_ge j i with q | q
      · exact hno j q
      · rw [hocc,List.getElem?_eq_none (by omega)];rfl)]
  | succ d ih =>
    intro i k' hd hk2 hi hno
    obtain ⟨k',rfl⟩:∃ m,k'=m+1:=⟨k'-1,by omega⟩
    simp only [iter]
    by_cases hj:i<s.size
    case neg =>
      rw [dF (show ¬ (i:Int)<(s.size:Int) by omega),cond_false,Lib.index_none (fun j hj2=>by
        rcases Nat.lt_or_ge j i with q | q
        · exact hno j q
        · rw [hocc,List.getElem?_eq_none (by omega)];rfl)]
    have g1:s.data.toList[i]? = some (s.data.toList[i]'(by omega)):=List.getElem?_eq_getElem (by omega)
    rw [dT (show (i:Int)<(s.size:Int) by omega),dT (show 0≤(i:Int)∧(i:Int)<(s.size:Int) by omega),bt_some g1]
    simp only [cond_true]
    have hoc:Lib.occAt s.data.toList [58] i=decide (((s.data.toList[i]'(by omega)).toNat:Int)=58):=by
      rw [hocc,g1,decide_eq_decide,Option.some.injEq]
      constructor
      · intro e;rw [e];rfl
      · intro e;exact UInt8.toNat_inj.mp (by show _=58;omega)
    cases h1:decide (((s.data.toList[i]'(by omega)).toNat:Int)=58) with
    | true =>
      rw [cond_true]
      have:Lib.index s.data.toList [58]=(i:Int):=Lib.index_first (by omega) (by rw [hoc,h1]) hno
      rw [this]
    | false =>
      rw [cond_false,w64 (n:=(i:Int)+1) (by omega) (by omega)]
      exact ih (i+1) k' (by omega) (by omega) (by omega) (fun j hj=>by
        rcases Nat.lt_or_ge j i with q2 | q2
        · exact hno j q2
        · have:j=i:=by omega
          subst this;rw [hoc,h1])
theorem whole_S (k:Nat) (hk:fuel<k) (s:ByteArray) (hs:s.size≤big):F140 k s=some (Lib.contains s.data.toList [13,10,13,10]):=by
  have hk':2097152<k:=hk
  have hs':s.size≤1048576:=hs
  have hlen:s.data.toList.length=s.size:=(size_data s).symm
  have short:∀ j,s.size<j+4→Lib.occAt s.data.toList [13,10,13,10] j=false:=fun j hj=>by
    rw [Bool.eq_false_iff]
    intro h
    rw [occ_sub] at h
    have:=congrArg List.length h
    simp only [List.length_take,List.length_drop,List.length_cons,List.length_nil,hlen] at this
    omega
  unfold F140 Lib.contains
  suffices h:∀ (d i k:Nat),s.size-i≤d→d<k→i≤s.size→(∀ j,j<i→Lib.occAt s.data.toList [13,10,13,10] j=false)→iter (σ:=Int × Unit) _ k ((i:Int),())=some (decide (0≤Lib.index s.data.toList [13,10,13,10])) from h s.size 0 k (by omega) (by omega) (by omega) (fun j hj=>by omega)
  intro d
  induction d with
  | zero =>
    intro i k hd hk hi hno
    obtain ⟨k,rfl⟩:∃ m,k=m+1:=⟨k-1,by omega⟩
    simp only [iter]
    rw [w64 (n:=(i:Int)+3) (by omega) (by omega),dF (show ¬ (i:Int)+3<(s.size:Int) by omega),cond_false,Lib.index_none (fun j hj=>by
      rcases Nat.lt_or_ge j i with q | q
      · exact hno j q
      · exact short j (by omega))]
    rfl
  | succ d ih =>
    intro i k' hd hk2 hi hno
    obtain ⟨k',rfl⟩:∃ m,k'=m+1:=⟨k'-1,by omega⟩
    simp only [iter]
    rw [w64 (n:=(i:Int)+3) (by omega) (by omega),w64 (n:=(i:Int)+4) (by omega) (by omega),w64 (n:=(i:Int)+1) (by omega) (by omega)]
    by_cases hj:i+3<s.size
    case neg =>
      rw [dF (show ¬ (i:Int)+3<(s.size:Int) by omega),cond_false,Lib.index_none (fun j hj2=>by
        rcases Nat.lt_or_ge j i with q | q
        · exact hno j q
        · exact short j (by omega))]
      rfl
    have c1:((i:Int)+4).toNat=i+4:=by omega
    rw [dT (show (i:Int)+3<(s.size:Int) by omega),dT (show 0≤(i:Int)∧(i:Int)≤(i:Int)+4∧(i:Int)+4≤(s.size:Int) by omega),c1,Int.toNat_natCast]
    simp only [cond_true]
    have hoc:(s.extract i (i+4)=ByteArray.mk #[13,10,13,10])↔Lib.occAt s.data.toList [13,10,13,10] i=true:=by
      rw [occ_sub]
      constructor
      · intro e
        have:=congrArg (·.data.toList) e
        simp only [extract_data] at this
        rw [show i+4-i=4 by omega] at this
        exact this
      · intro e
        apply bytes_ext
        rw [extract_data,show i+4-i=4 by omega]
        exact e
    by_cases h1:s.extract i (i+4)=ByteArray.mk #[13,10,13,10]
    · rw [dT h1,cond_true]
      have:Lib.index s.data.toList [13,10,13,10]=(i:Int):=Lib.index_first (by omega) (hoc.mp h1) hno
      rw [this,dT (show (0:Int)≤(i:Int) by omega)]
    · rw [dF h1,cond_false]
      exact ih (i+1) k' (by omega) (by omega) (by omega) (fun j hj=>by
        rcases Nat.lt_or_ge j i with q2 | q2
        · exact hno j q2
        · have:j=i:=by omega
          subst this
          rw [Bool.eq_false_iff]
          exact fun e=>h1 (hoc.mpr e))
end Go.Proofs.YtigbabjhcihmaaaGreatDoor.Fns
namespace Go.Proofs.YtigbabjhcihmaaaGreatDoor.Fns
open Go Go.RowKit Go.Proofs Go.Proofs.YtigbabjhcihmaaaGreatDoor.Ev Go.Proofs.YtigbabjhcihmaaaGreatDoor.Pl
set_option linter.unusedVariables false
set_option linter.unusedSimpArgs false
set_option maxRecDepth 100000
def fldOf (n v:List UInt8):D0:=(lower ⟨n.toArray⟩,trim ⟨v.toArray⟩)
def fieldsRes (size:Nat) (q:Option (List D0 × List UInt8)):List D0 × Int × Bool :=
  match q with
  | some (l,r)=>(l,((size-r.length:Nat):Int),true)
  | none=>([],0,false)
def fieldsAt (s:ByteArray):List D0 × Int × Bool:=fieldsRes s.size (readF fldOf fOk 13 s.data.toList [])
theorem mk_size (l:List UInt8):(ByteArray.mk l.toArray).size=l.length:=by rw [size_data]
theorem trim_len (s:ByteArray):(trim s).size≤s.size:=by
  have h1:∀ (l cs:List UInt8),(Lib.trimLeftS l cs).length≤l.length:=by
    intro l cs
    unfold Lib.trimLeftS
    exact (List.dropWhile_suffix _).length_le
  have h2:∀ (l cs:List UInt8),(Lib.trimRightS l cs).length≤l.length:=by
    intro l cs
    unfold Lib.trimRightS
    have:=(List.dropWhile_suffix (l:=l.reverse) (p:=fun b=>cs.contains b)).length_le
    simp at this ⊢
    exact this
  unfold trim
  rw [size_data,size_data]
  show (Lib.trimS s.data.toList blanks).length≤_
  rw [← trim_comm]
  exact Nat.le_trans (h2 _ _) (h1 _ _)
theorem fld_cost (n v:List UInt8):cost U0 (fldOf n v)≤n.length+v.length:=by
  rw [field_cost]
  have h1:(lower ⟨n.toArray⟩).size=n.length:=by unfold lower;rw [mk_size,List.length_map]
  have h2:=trim_len ⟨v.toArray⟩
  have h3:=mk_size v
  unfold fldOf
  simp only [h1]
  omega
theorem readF_inv:∀ (n:Nat) (r:List UInt8) (acc l:List D0) (r':List UInt8),readF fldOf fOk n r acc=some (l,r')→acc.length≤12→acc.all fOk=true →
    l.length≤12∧l.all fOk=true∧cost (.slice U0) l+r'.length+2≤cost (.slice U0) acc+r.length
  | 0,r,acc,l,r',h,_,_=>by simp [readF] at h
  | n+1,r,acc,l,r',h,hl,ha=>by
    unfold readF at h
    split at h
    · cases h
    next h0 =>
    have hroom:=Lib.index_room r [13,10] (by omega)
    have h2:([13,10]:List UInt8).length=2:=rfl
    rw [h2] at hroom
    split at h
    · next h1 =>
      cases h
      refine ⟨hl,ha,?_⟩
      rw [List.length_drop]
      omega
    split at h
    · cases h
    next h3 =>
    split at h
    case isFalse=>cases h
    next h4 =>
    rw [Bool.and_eq_true,decide_eq_true_eq] at h4
    generalize hline:r.take (Lib.index r [13,10]).toNat=line at *
    have hll:line.length=(Lib.index r [13,10]).toNat:=by rw [← hline,List.length_take];omega
    have hcr:=Lib.index_room line [58] (by omega)
    have h1:([58]:List UInt8).length=1:=rfl
    rw [h1] at hcr
    have ih:=readF_inv n _ _ l r' h (by rw [List.length_append];simp;omega) (by rw [List.all_append,ha];simpa using h4.1)
    refine ⟨ih.1,ih.2.1,?_⟩
    have hc:=fld_cost (line.take (Lib.index line [58]).toNat) (line.drop ((Lib.index line [58]).toNat+1))
    have hsz:=ih.2.2
    rw [cost_append,List.length_drop] at hsz
    have h1c:cost (.slice U0) [fldOf (line.take (Lib.index line [58]).toNat) (line.drop ((Lib.index line [58]).toNat+1))]=1+cost U0 (fldOf (line.take (Lib.index line [58]).toNat) (line.drop ((Lib.index line [58]).toNat+1))):=by
      show 1+(cost U0 _+0)=_;rfl
    rw [h1c] at hsz
    rw [List.length_take,List.length_drop] at hc
    omega
theorem fieldsOk_true {l:List D0} (h:l.all fOk=true) (hl:l.length≤12):fieldsOk l=true:=by
  unfold fieldsOk
  rw [h,Bool.true_and,decide_eq_true_eq];omega
theorem one_cost (f:D0):cost (.slice U0) [f]=1+cost U0 f:=by show 1+(cost U0 f+0)=_;rfl
theorem readFields_S (k:Nat) (hk:fuel<k) (s:ByteArray) (hs:s.size≤big):F144 k s=some (fieldsAt s):=by
  have hk':2097152<k:=hk
  have hs':s.size≤1048576:=hs
  have hlen:s.data.toList.length=s.size:=(size_data s).symm
  unfold F144 fieldsAt
  suffices h:∀ (n p j:Nat) (out:List D0),p≤s.size→n+out.length=13→out.length≤12→n<j→out.all fOk=true→cost (.slice U0) out≤p →
      iter (σ:=Int × List D0 × Unit) _ j ((p:Int),out,())=some (fieldsRes s.size (readF fldOf fOk n (s.data.toList.drop p) out)) from h 13 0 k [] (by omega) (by rfl) (by simp) (by omega) rfl (Nat.zero_le _)
  intro n
  induction n with
  | zero=>intro p j out hp hn hl;omega
  | succ n ih =>
    intro p j out hp hn hl hj ha hc
    obtain ⟨j,rfl⟩:∃ m,j=m+1:=⟨j-1,by omega⟩
    simp only [iter]
    rw [dT (show (out.length:Int)≤12 by omega),cond_true,line_S k hk s hs p hp,Option.bind_some]
    unfold readF lineAt
    have hdl:(s.data.toList.drop p).length=s.size-p:=by rw [List.length_drop,hlen]
    by_cases h0:Lib.index (s.data.toList.drop p) [13,10]<0
    · rw [if_pos h0,if_pos h0]
      rfl
    rw [if_neg h0,if_neg h0]
    have hroom:=Lib.index_room (s.data.toList.drop p) [13,10] (by omega)
    have h2:([13,10]:List UInt8).length=2:=rfl
    rw [h2,hdl] at hroom
    obtain ⟨i,hi⟩:∃ i:Nat,Lib.index (s.data.toList.drop p) [13,10]=i:=⟨(Lib.index (s.data.toList.drop p) [13,10]).toNat,by omega⟩
    rw [hi] at hroom ⊢
    simp only [Int.toNat_natCast]
    have hline:(s.extract p (p+i)).data.toList=(s.data.toList.drop p).take i:=by rw [extract_data];congr 1;omega
    rw [dF (show ¬ ((p+i+2:Nat):Int)<0 by omega),cond_false]
    by_cases hi0:i=0
    · subst hi0
      have he:s.extract p (p+0)=ByteArray.mk #[]:=bytes_ext (by rw [hline];rfl)
      rw [dT he,cond_true,if_pos (show ((0:Nat):Int)=0 from rfl),fieldsOk_S k hk out (Nat.le_trans hc (by show p≤2097152;omega)),fieldsOk_true ha hl]
      simp only [Option.bind_some,fieldsRes]
      have:s.size-((s.data.toList.drop p).drop 2).length=p+0+2:=by rw [List.length_drop,hdl];omega
      rw [this]
    have hne:¬ s.extract p (p+i)=ByteArray.mk #[]:=fun e=>by
      have:=congrArg (fun z=>z.data.toList.length) e
      simp only [hline,List.length_take,hdl] at this
      have h00:(#[]:Array UInt8).toList.length=0:=rfl
      rw [h00] at this
      omega
    have hlsz:(s.extract p (p+i)).size=i:=by rw [size_data,hline,List.length_take,hdl];omega
    rw [dF hne,cond_false,if_neg (by omega),colon_S k hk _ (by rw [hlsz];show i≤1048576;omega),hline,Option.bind_some]
    generalize hL:(s.data.toList.drop p).take i=line at *
    have hll:line.length=i:=by rw [← hL,List.length_take,hdl];omega
    by_cases hc0:Lib.index line [58]<0
    · rw [dT hc0,cond_true,if_pos hc0];rfl
    rw [dF hc0,cond_false,if_neg hc0]
    have hcr:=Lib.index_room line [58] (by omega)
    have h1:([58]:List UInt8).length=1:=rfl
    rw [h1,hll] at hcr
    obtain ⟨c,hci⟩:∃ c:Nat,Lib.index line [58]=c:=⟨(Lib.index line [58]).toNat,by omega⟩
    rw [hci] at hcr ⊢
    rw [w64 (n:=(c:Int)+1) (by omega) (by omega)]
    have c1:((c:Int)+1).toNat=c+1:=by omega
    rw [dT (show (0:Int)≤0∧(0:Int)≤(c:Int)∧(c:Int)≤((s.extract p (p+i)).size:Int) by rw [hlsz];omega),dT (show 0≤(c:Int)+1∧(c:Int)+1≤((s.extract p (p+i)).size:Int)∧((s.extract p (p+i)).size:Int)≤((s.extract p (p+i)).size:Int) by rw [hlsz];omega),c1,Int.toNat_natCast]
    simp only [cond_true]
    have e1:(s.extract p (p+i)).extract (0:Int).toNat c=⟨(line.take c).toArray⟩:=bytes_ext (by rw [extract_data,hline];simp)
    have e2:(s.extract p (p+i)).extract (c+1) (s.extract p (p+i)).size=⟨(line.drop (c+1)).toArray⟩:=bytes_ext (by rw [tail_data,hline])
    have f1:(line.take c).length≤1048576:=by rw [List.length_take];omega
    have f2:(line.drop (c+1)).length≤1048576:=by rw [List.length_drop];omega
    rw [e1,e2,lower_S k _ (by rw [mk_size];omega) (by rw [mk_size];omega),Option.bind_some,trim_S k _ (by rw [mk_size];omega) (by rw [mk_size];omega),Option.bind_some]
    have hf:((lower ⟨(line.take c).toArray⟩,trim ⟨(line.drop (c+1)).toArray⟩):D0)=fldOf (line.take c) (line.drop (c+1)):=rfl
    have hfc:=fld_cost (line.take c) (line.drop (c+1))
    rw [List.length_take,List.length_drop,hll] at hfc
    simp only [hf]
    rw [fieldOk_S k hk _ (by show _≤2097152;omega),Option.bind_some]
    cases hok:fOk (fldOf (line.take c) (line.drop (c+1))) with
    | false =>
      simp only [Bool.not_false,cond_true,Bool.false_and,if_neg (show ¬ false=true by decide)]
      rfl
    | true =>
      simp only [Bool.not_true,cond_false,Bool.true_and]
      rw [dT (show out.length+([fldOf (line.take c) (line.drop (c+1))]:List D0).length<most by show out.length+1<8589934592;omega),cond_true]
      by_cases h12:out.length<12
      · rw [decide_eq_true h12,if_pos rfl]
        have:=ih (p+i+2) j (out++[fldOf (line.take c) (line.drop (c+1))]) (by omega) (by rw [List.length_append];simp;omega) (by rw [List.length_append];simp;omega) (by omega) (by rw [List.all_append,ha];simpa using hok) (by rw [cost_append,one_cost];omega)
        refine this.trans ?_
        rw [List.drop_drop,← Nat.add_assoc]
      · rw [decide_eq_false h12,if_neg (by decide)]
        obtain ⟨j,rfl⟩:∃ m,j=m+1:=⟨j-1,by omega⟩
        simp only [iter]
        rw [dF (show ¬ ((out++[fldOf (line.take c) (line.drop (c+1))]).length:Int)≤12 by rw [List.length_append];simp;omega),cond_false]
        rfl
theorem cut_val (r sep:ByteArray) (h:r.size≤big):semCut r sep=some (if Lib.index r.data.toList sep.data.toList<0 then (r,ByteArray.mk #[],false)
    else (⟨(r.data.toList.take (Lib.index r.data.toList sep.data.toList).toNat).toArray⟩,⟨(r.data.toList.drop ((Lib.index r.data.toList sep.data.toList).toNat+sep.data.toList.length)).toArray⟩,true)):=by
  have h':r.size≤1048576:=h
  unfold semCut
  rw [dT (show r.size<4294967281 by omega),cond_true]
  unfold Lib.cut
  by_cases h0:Lib.index r.data.toList sep.data.toList<0
  · rw [if_pos h0,if_neg (by omega)]
  · rw [if_neg h0,if_pos (by omega)]
theorem readFields_I (k:Nat) (hk:fuel<k) (s:ByteArray) (hs:s.size≤big):F237 k s=some (fieldsAt s):=by
  have hk':2097152<k:=hk
  have hs':s.size≤1048576:=hs
  have hlen:s.data.toList.length=s.size:=(size_data s).symm
  unfold F237 fieldsAt
  suffices h:∀ (n j:Nat) (r:ByteArray) (out:List D0),r.size≤s.size→n+out.length=13→out.length≤12→n<j→cost (.slice U0) out+r.size≤s.size →
      iter (σ:=ByteArray × List D0 × Unit) _ j (r,out,())=some (fieldsRes s.size (readF fldOf fOk n r.data.toList out)) from h 13 k s [] (Nat.le_refl _) (by rfl) (by simp) (by omega) (by show 0+s.size≤s.size;omega)
  intro n
  induction n with
  | zero=>intro j r out hp hn hl;omega
  | succ n ih =>
    intro j r out hp hn hl hj hc
    obtain ⟨j,rfl⟩:∃ m,j=m+1:=⟨j-1,by omega⟩
    have hrl:r.data.toList.length=r.size:=(size_data r).symm
    simp only [iter]
    rw [cut_val r _ (by show r.size≤1048576;omega),Option.bind_some]
    have hsep:(ByteArray.mk #[13,10]).data.toList=[13,10]:=rfl
    rw [hsep]
    unfold readF
    by_cases h0:Lib.index r.data.toList [13,10]<0
    · rw [if_pos h0,if_pos h0];rfl
    rw [if_neg h0,if_neg h0]
    have hroom:=Lib.index_room r.data.toList [13,10] (by omega)
    have h2:([13,10]:List UInt8).length=2:=rfl
    rw [h2,hrl] at hroom
    obtain ⟨i,hi⟩:∃ i:Nat,Lib.index r.data.toList [13,10]=i:=⟨(Lib.index r.data.toList [13,10]).toNat,by omega⟩
    rw [hi] at hroom ⊢
    simp only [Int.toNat_natCast,Bool.not_true,cond_false,h2]
    have hll:(r.data.toList.take i).length=i:=by rw [List.length_take,hrl];omega
    by_cases hi0:i=0
    · subst hi0
      have he:(ByteArray.mk (r.data.toList.take 0).toArray)=ByteArray.mk #[]:=rfl
      rw [dT he,cond_true,if_pos (show ((0:Nat):Int)=0 from rfl),Nat.zero_add,mk_size (r.data.toList.drop 2),List.length_drop,hrl,w64 (by omega) (by omega)]
      simp only [fieldsRes,List.length_drop,hrl]
      have:(s.size:Int)-((r.size-2:Nat):Int)=((s.size-(r.size-2):Nat):Int):=by omega
      rw [this]
    have hne:¬ (ByteArray.mk (r.data.toList.take i).toArray)=ByteArray.mk #[]:=fun e=>by
      have:=congrArg (fun z=>z.size) e
      simp only [mk_size] at this
      rw [hll] at this
      exact hi0 this
    rw [dF hne,cond_false,if_neg (by omega),cut_val _ _ (by rw [mk_size];show _≤1048576;omega),Option.bind_some]
    have hsep2:(ByteArray.mk #[58]).data.toList=[58]:=rfl
    rw [hsep2]
    have hlt:(ByteArray.mk (r.data.toList.take i).toArray).data.toList=(r.data.toList.take i):=rfl
    rw [hlt]
    by_cases hc0:Lib.index (r.data.toList.take i) [58]<0
    · rw [if_pos hc0,if_pos hc0]
      have z0:(ByteArray.mk #[]).size=0:=rfl
      simp only
      rw [lower_I k _ (by rw [mk_size];omega) (by rw [mk_size];omega),Option.bind_some,trim_I k _ (by rw [z0];omega),Option.bind_some]
      rfl
    rw [if_neg hc0,if_neg hc0]
    have hcr:=Lib.index_room (r.data.toList.take i) [58] (by omega)
    have h1:([58]:List UInt8).length=1:=rfl
    rw [h1,hll] at hcr
    obtain ⟨c,hci⟩:∃ c:Nat,Lib.index (r.data.toList.take i) [58]=c:=⟨(Lib.index (r.data.toList.take i) [58]).toNat,by omega⟩
    rw [hci] at hcr ⊢
    simp only [Int.toNat_natCast,h1]
    have f1:((r.data.toList.take i).take c).length≤1048576:=by rw [List.length_take];omega
    have f2:((r.data.toList.take i).drop (c+1)).length≤1048576:=by rw [List.length_drop];omega
    rw [lower_I k _ (by rw [mk_size];omega) (by rw [mk_size];omega),Option.bind_some,trim_I k _ (by rw [mk_size];omega),Option.bind_some]
    have hf:((lower ⟨((r.data.toList.take i).take c).toArray⟩,trim ⟨((r.data.toList.take i).drop (c+1)).toArray⟩):D0)=fldOf ((r.data.toList.take i).take c) ((r.data.toList.take i).drop (c+1)):=rfl
    have hfc:=fld_cost ((r.data.toList.take i).take c) ((r.data.toList.take i).drop (c+1))
    rw [List.length_take,List.length_drop,hll] at hfc
    simp only [hf,Bool.not_true,cond_false]
    rw [fieldOk_I k hk _ (by show _≤2097152;omega),Option.bind_some]
    cases hok:fOk (fldOf ((r.data.toList.take i).take c) ((r.data.toList.take i).drop (c+1))) with
    | false =>
      simp only [Bool.not_false,cond_true,Bool.false_and,if_neg (show ¬ false=true by decide)]
      rfl
    | true =>
      simp only [Bool.not_true,cond_false,Bool.true_and]
      by_cases h12:out.length<12
      · rw [dF (show ¬ (out.length:Int)=12 by omega),cond_false,dT (show out.length+([fldOf ((r.data.toList.take i).take c) ((r.data.toList.take i).drop (c+1))]:List D0).length<most by show out.length+1<8589934592;omega),cond_true,decide_eq_true h12,if_pos rfl]
        exact ih j ⟨(r.data.toList.drop (i+2)).toArray⟩ (out++[fldOf ((r.data.toList.take i).take c) ((r.data.toList.take i).drop (c+1))]) (by rw [mk_size,List.length_drop,hrl];omega) (by rw [List.length_append];simp;omega) (by rw [List.length_append];simp;omega) (by omega) (by rw [cost_append,one_cost,mk_size,List.length_drop,hrl];omega)
      · rw [dT (show (out.length:Int)=12 by omega),cond_true,decide_eq_false h12,if_neg (by decide)]
        rfl
end Go.Proofs.YtigbabjhcihmaaaGreatDoor.Fns
