/- Answers read: nothing stops either way; what was shown is read. -/
import Derived.Test.YtigbabjhcihmaaaGreatDoorReadB
namespace Go.Proofs.YtigbabjhcihmaaaGreatDoor.Fns
open Go Go.RowKit Go.Proofs Go.Proofs.YtigbabjhcihmaaaGreatDoor.Ev Go.Proofs.YtigbabjhcihmaaaGreatDoor.Pl
set_option linter.unusedVariables false
set_option linter.unusedSimpArgs false
set_option maxRecDepth 100000
def lineL (a:D1) (w:ByteArray):List UInt8:=[72,84,84,80,47,49,46,49]++32 :: (Lib.itoa a.1++32 :: w.data.toList)
theorem respL_eq (a:D1) (w:ByteArray):respL a w=lineL a w++[13,10]++((framedF a).flatMap fieldL++13 :: 10 :: a.2.2.data.toList):=by
  unfold respL lineL
  simp
theorem itoa_bytes {n:Int} (h0:200≤n) (h1:n≤599):(Lib.itoa n).length=3∧∀ x∈Lib.itoa n,x≠32∧x≠9∧x≠13:=by
  have key:∀ d:Fin 400,(Lib.itoa (200+(d.val:Int))).length=3∧(Lib.itoa (200+(d.val:Int))).all (fun x=>x != 32&&x != 9&&x != 13)=true:=by decide +kernel
  have:=key ⟨(n-200).toNat,by omega⟩
  have e:200+(((⟨(n-200).toNat,by omega⟩:Fin 400).val:Nat):Int)=n:=by
    show 200+(((n-200).toNat:Nat):Int)=n
    omega
  rw [e] at this
  refine ⟨this.1,fun x hx=>?_⟩
  have:=List.all_eq_true.mp this.2 x hx
  simp only [Bool.and_eq_true,bne_iff_ne] at this
  exact ⟨this.1.1,this.1.2,this.2⟩
theorem tok_no:tok 13=false∧tok 58=false:=⟨by kernel_rfl,by kernel_rfl⟩
theorem field_lines {f:D0} (h:fOk f=true):(∀ x∈f.1.data.toList,x≠13∧x≠58)∧(∀ x∈32 :: f.2.data.toList,x≠13)∧fldOf f.1.data.toList (32 :: f.2.data.toList)=f:=by
  unfold fOk isTok isValue at h
  simp only [Bool.and_eq_true,decide_eq_true_eq] at h
  obtain ⟨⟨⟨⟨⟨h1,_⟩,h2⟩,_⟩,h3,h4⟩,_⟩:=h
  refine ⟨fun x hx=>?_,fun x hx=>?_,?_⟩
  · have:=List.all_eq_true.mp h1 x hx
    refine ⟨fun e=>?_,fun e=>?_⟩
    · rw [e,tok_no.1] at this;cases this
    · rw [e,tok_no.2] at this;cases this
  · rcases List.mem_cons.mp hx with q | q
    · rw [q];decide
    · have:=List.all_eq_true.mp h3 x q
      intro e
      rw [e] at this
      exact absurd this (by decide)
  · unfold fldOf
    have e1:lower ⟨f.1.data.toList.toArray⟩=f.1:=by
      have:(⟨f.1.data.toList.toArray⟩:ByteArray)=f.1:=bytes_ext rfl
      rw [this];exact h2.symm
    have e2:trim ⟨(32 :: f.2.data.toList).toArray⟩=f.2:=by
      have:trim ⟨(32 :: f.2.data.toList).toArray⟩=trim f.2:=by
        unfold trim
        congr 2
        show Lib.trimS (32 :: f.2.data.toList) blanks=Lib.trimS f.2.data.toList blanks
        rw [← trim_comm,← trim_comm]
        congr 1
      rw [this];exact h4
    rw [e1,e2]
theorem readF_framed {a:D1} (h:respOk a=true) (body:List UInt8):readF fldOf fOk 13 ((framedF a).flatMap fieldL++13 :: 10 :: body) []=some (framedF a,body):=by
  obtain ⟨f1,f2,f3⟩:=framed_ok h
  unfold fieldsOk at f1
  rw [Bool.and_eq_true] at f1
  have:=readF_show fldOf fOk (fun f=>f.1.data.toList) (fun f=>32 :: f.2.data.toList) body (framedF a) [] 13 (fun f hf=>by
    have ho:=List.all_eq_true.mp f1.1 f hf
    obtain ⟨g1,g2,g3⟩:=field_lines ho
    exact ⟨g1,g2,g3,ho⟩) (by simpa using f2) (by omega)
  exact this
theorem drop_framed {a:D1} (h:respOk a=true):((framedF a).filter fun f=>!decide (f.1=nTE)).filter (fun f=>!decide (f.1=nCL))=a.2.1:=by
  obtain ⟨h1,h2,h3,h4,h5⟩:=resp_parts h
  obtain ⟨p1,p2,p3,p4⟩:=plain_ok h3
  unfold framedF
  split
  · rw [drop_id p3,drop_id p4]
  · rw [List.filter_append,drop_id p3,List.filter_append,drop_id p4]
    have:decide (nCL=nTE)=false:=by decide
    simp [this]
theorem drop_framed' {a:D1} (h:respOk a=true):((framedF a).filter fun f=>!decide (f.1=nCL)).filter (fun f=>!decide (f.1=nTE))=a.2.1:=by
  rw [← drop_framed h,List.filter_filter,List.filter_filter]
  congr 1
  funext f
  exact Bool.and_comm _ _
theorem cost_filter (p:D0→Bool):∀ l:List D0,cost (.slice U0) (l.filter p)≤cost (.slice U0) l
  | []=>Nat.le_refl _
  | f :: l=>by
    have ih:=cost_filter p l
    have e:∀ m:List D0,cost (.slice U0) (f :: m)=1+cost U0 f+cost (.slice U0) m:=fun m=>by
      have:=cost_append (e:=U0) [f] m
      rw [one_cost] at this
      exact this
    rw [List.filter_cons]
    split
    · rw [e,e];omega
    · rw [e];omega
theorem crlf_twice (s:ByteArray) (h:Lib.contains s.data.toList [13,10,13,10]=true):0≤Lib.index s.data.toList [13,10]:=by
  unfold Lib.contains at h
  have h0:=of_decide_eq_true h
  rcases Lib.index_spec s.data.toList [13,10,13,10] with ⟨h1,_⟩ | ⟨i,h1,h2,h3,_⟩
  · omega
  · rcases Lib.index_spec s.data.toList [13,10] with ⟨g1,g2⟩ | ⟨j,g1,_⟩
    · exfalso
      have:=g2 i h2
      rw [Bool.eq_false_iff] at this
      apply this
      rw [occ_sub] at h3 ⊢
      have e:(s.data.toList.drop i).take 2=((s.data.toList.drop i).take 4).take 2:=by rw [List.take_take];rfl
      show (s.data.toList.drop i).take 2=_
      rw [e]
      have h3:(s.data.toList.drop i).take 4=[13,10,13,10]:=h3
      rw [h3];rfl
    · omega
theorem framed_end (l:List D0) (line:List UInt8):∃ X,line++[13,10]++l.flatMap fieldL=X++[13,10]:=by
  rcases List.eq_nil_or_concat l with rfl | ⟨m,f,rfl⟩
  · exact ⟨line,by simp⟩
  · rw [List.concat_eq_append]
    refine ⟨line++[13,10]++m.flatMap fieldL++(f.1.data.toList++58 :: (32 :: f.2.data.toList)),?_⟩
    rw [List.flatMap_append,List.flatMap_cons,List.flatMap_nil,List.append_nil]
    unfold fieldL
    simp
theorem respL_whole (a:D1) (w:ByteArray):Lib.contains (respL a w) [13,10,13,10]=true:=by
  obtain ⟨X,hX⟩:=framed_end (framedF a) (lineL a w)
  have e:respL a w=X++([13,10,13,10]++a.2.2.data.toList):=by
    rw [respL_eq,← List.append_assoc,hX];simp
  unfold Lib.contains
  rw [decide_eq_true_eq]
  rcases Lib.index_spec (respL a w) [13,10,13,10] with ⟨_,h2⟩ | ⟨i,h1,_⟩
  · exfalso
    have:=h2 X.length (by rw [e,List.length_append];omega)
    rw [Bool.eq_false_iff] at this
    apply this
    rw [occ_sub,e,List.drop_left]
    rfl
  · omega
theorem line_noCR {a:D1} {w:ByteArray} (hr:respOk a=true) (hw:noCR w):∀ x∈lineL a w,x≠13:=by
  obtain ⟨h1,h2,h3,h4,h5⟩:=resp_parts hr
  intro x hx
  unfold lineL at hx
  rcases List.mem_append.mp hx with q | q
  · intro e;subst e;revert q;decide
  rcases List.mem_cons.mp q with q | q
  · subst q;decide
  rcases List.mem_append.mp q with q | q
  · exact ((itoa_bytes h1 h2).2 x q).2.2
  rcases List.mem_cons.mp q with q | q
  · subst q;decide
  · exact hw x q
def RespR (s:ByteArray) (r:D1 × Int × Int):Prop :=
  cost U1 r.1≤s.size∧∀ a w,respOk a=true→noCR w→s.data.toList=respL a w→r=(a,(s.size:Int),0)
abbrev noResp:D1:=(Z1.1,([]:List D0),Z1.2.2)
theorem noResp_cost:cost U1 noResp=0:=by kernel_rfl
end Go.Proofs.YtigbabjhcihmaaaGreatDoor.Fns
namespace Go.Proofs.YtigbabjhcihmaaaGreatDoor.Fns
open Go Go.RowKit Go.Proofs Go.Proofs.YtigbabjhcihmaaaGreatDoor.Ev Go.Proofs.YtigbabjhcihmaaaGreatDoor.Pl
set_option linter.unusedVariables false
set_option linter.unusedSimpArgs false
set_option maxRecDepth 100000
theorem no_resp (s:ByteArray) (n c:Int) (hno:∀ a w,respOk a=true→noCR w→s.data.toList=respL a w→False):RespR s (noResp,n,c) :=
  ⟨by show cost U1 noResp≤_;rw [noResp_cost];exact Nat.zero_le _,fun a w h1 h2 h3=>(hno a w h1 h2 h3).elim⟩
theorem readR_S (k:Nat) (hk:fuel<k) (s:ByteArray) (hs:s.size≤big):∃ r,F59 k s=some r∧RespR s r:=by
  have hk':2097152<k:=hk
  have hs':s.size≤1048576:=hs
  have hlen:s.data.toList.length=s.size:=(size_data s).symm
  have e0:(ByteArray.mk #[]).size=0:=rfl
  unfold F59
  rw [whole_S k hk s hs,Option.bind_some]
  cases hct:Lib.contains s.data.toList [13,10,13,10] with
  | false =>
    have hno:∀ a w,respOk a=true→noCR w→s.data.toList=respL a w→False:=fun a w _ _ h3=>by rw [h3,respL_whole] at hct;cases hct
    rw [Bool.not_false,cond_true]
    cases decide ((1500:Int)<(s.size:Int)) with
    | true=>exact ⟨_,rfl,no_resp s 0 2 hno⟩
    | false=>exact ⟨_,rfl,no_resp s 0 1 hno⟩
  | true =>
    rw [Bool.not_true,cond_false]
    have hline:=line_S k hk s hs 0 (Nat.zero_le _)
    rw [show (((0:Nat):Int))=0 from rfl] at hline
    rw [hline,Option.bind_some]
    have hidx:=crlf_twice s hct
    obtain ⟨i,hi⟩:∃ i:Nat,Lib.index s.data.toList [13,10]=i:=⟨(Lib.index s.data.toList [13,10]).toNat,by omega⟩
    have hroom:=Lib.index_room s.data.toList [13,10] hidx
    have h2:([13,10]:List UInt8).length=2:=rfl
    rw [h2,hlen,hi] at hroom
    have hla:lineAt s 0=(s.extract 0 i,((i+2:Nat):Int)):=by
      unfold lineAt
      rw [List.drop_zero,hi,if_neg (by omega),Int.toNat_natCast,Nat.zero_add]
    rw [hla]
    dsimp only
    have ex:∀ a w,respOk a=true→noCR w→s.data.toList=respL a w→s.extract 0 i=⟨(lineL a w).toArray⟩∧(s.extract (i+2) s.size).data.toList=(framedF a).flatMap fieldL++13 :: 10 :: a.2.2.data.toList:=by
      intro a w g1 g2 g3
      have hl:=index_one 13 [10] ((framedF a).flatMap fieldL++13 :: 10 :: a.2.2.data.toList) (lineL a w) (line_noCR g1 g2)
      rw [← respL_eq,← g3,hi] at hl
      have hil:i=(lineL a w).length:=by omega
      refine ⟨bytes_ext ?_,?_⟩
      · rw [extract_data,g3,respL_eq,hil,List.append_assoc];simp
      · rw [tail_data,g3,respL_eq,hil]
        have:(lineL a w).length+2=(lineL a w++[13,10]).length:=by rw [List.length_append];rfl
        rw [this,List.drop_left]
    have hLs:(s.extract 0 i).size≤s.size:=by rw [size_data,extract_data,List.length_take,List.length_drop,hlen];omega
    obtain ⟨⟨v,code,rest⟩,hw,hw1,hw2⟩:=words_S k hk (s.extract 0 i) (by show _≤1048576;omega)
    rw [hw,Option.bind_some]
    have exw:∀ a w,respOk a=true→noCR w→s.data.toList=respL a w→v=ByteArray.mk #[72,84,84,80,47,49,46,49]∧code=⟨(Lib.itoa a.1).toArray⟩:=by
      intro a w g1 g2 g3
      obtain ⟨p1,p2,_⟩:=resp_parts g1
      have:=hw2 [72,84,84,80,47,49,46,49] (Lib.itoa a.1) w.data.toList (by rw [(ex a w g1 g2 g3).1];rfl) (by decide) (fun x hx=>((itoa_bytes p1 p2).2 x hx).1)
      exact this
    dsimp only at hw1 exw ⊢
    obtain ⟨⟨st,okd⟩,hd,_,hdr⟩:=read_same k hk code (by omega)
    rw [hd,Option.bind_some]
    have exd:∀ a w,respOk a=true→noCR w→s.data.toList=respL a w→st=a.1∧okd=true:=by
      intro a w g1 g2 g3
      obtain ⟨p1,p2,_⟩:=resp_parts g1
      have:=readS_ok k hk code a.1 (by omega) (by omega) (by rw [(exw a w g1 g2 g3).2])
      rw [hd] at this
      cases this
      exact ⟨rfl,rfl⟩
    dsimp only
    rw [dT (show 0≤((i+2:Nat):Int)∧((i+2:Nat):Int)≤(s.size:Int)∧(s.size:Int)≤(s.size:Int) by omega),cond_true,Int.toNat_natCast,Int.toNat_natCast]
    obtain ⟨T,hT⟩:∃ T,T=s.extract (i+2) s.size:=⟨_,rfl⟩
    rw [← hT] at ex ⊢
    have hTs:T.size=s.size-(i+2):=by rw [hT,tail_size]
    have hTl:T.data.toList.length=T.size:=(size_data T).symm
    rw [readFields_S k hk T (by show _≤1048576;omega),Option.bind_some]
    rcases fieldsAt_cases T with ⟨hf,hn⟩ | ⟨l,r,hr,hf,hrl,hrd,b1,b2,b3⟩
    · have hno:∀ a w,respOk a=true→noCR w→s.data.toList=respL a w→False:=fun a w g1 g2 g3=>by
        rw [(ex a w g1 g2 g3).2,readF_framed g1] at hn;cases hn
      rw [hf]
      dsimp only
      rw [drop_S k hk [] _ (by simp),Option.bind_some,drop_S k hk _ _ (by simp),Option.bind_some]
      cases decide (v=ByteArray.mk #[72,84,84,80,47,49,46,49]) with
      | false=>exact ⟨_,rfl,no_resp s 0 2 hno⟩
      | true =>
        rw [Bool.not_true,cond_false]
        cases okd with
        | false=>exact ⟨_,rfl,no_resp s 0 2 hno⟩
        | true =>
          rw [Bool.not_true,cond_false]
          cases decide ((code.size:Int)=3) with
          | false=>exact ⟨_,rfl,no_resp s 0 2 hno⟩
          | true=>exact ⟨_,rfl,no_resp s 0 2 hno⟩
    rw [hf]
    dsimp only
    have hll:l.length≤cost (.slice U0) l:=cost_len (e:=U0) l
    rw [drop_S k hk l _ (by omega),Option.bind_some,drop_S k hk _ _ (Nat.le_trans (List.length_filter_le _ _) (by omega)),Option.bind_some]
    obtain ⟨m,hm⟩:∃ m,m=(l.filter fun f=>!decide (f.1=nTE)).filter (fun f=>!decide (f.1=nCL)):=⟨_,rfl⟩
    have hmc:cost (.slice U0) m≤cost (.slice U0) l:=by rw [hm];exact Nat.le_trans (cost_filter _ _) (cost_filter _ _)
    rw [← hm]
    have exf:∀ a w,respOk a=true→noCR w→s.data.toList=respL a w→l=framedF a∧m=a.2.1∧r=a.2.2.data.toList:=by
      intro a w g1 g2 g3
      rw [(ex a w g1 g2 g3).2,readF_framed g1] at hr
      cases hr
      exact ⟨rfl,by rw [hm];exact drop_framed g1,rfl⟩
    cases hv:decide (v=ByteArray.mk #[72,84,84,80,47,49,46,49]) with
    | false=>exact ⟨_,rfl,no_resp s 0 2 fun a w g1 g2 g3=>of_decide_eq_false hv (exw a w g1 g2 g3).1⟩
    | true =>
      rw [Bool.not_true,cond_false]
      cases hok:okd with
      | false=>exact ⟨_,rfl,no_resp s 0 2 fun a w g1 g2 g3=>by have:=(exd a w g1 g2 g3).2;rw [hok] at this;cases this⟩
      | true =>
        rw [Bool.not_true,cond_false]
        cases h3:decide ((code.size:Int)=3) with
        | false=>exact ⟨_,rfl,no_resp s 0 2 fun a w g1 g2 g3=>of_decide_eq_false h3 (by
            obtain ⟨p1,p2,_⟩:=resp_parts g1
            rw [(exw a w g1 g2 g3).2,mk_size,(itoa_bytes p1 p2).1];rfl)⟩
        | true =>
          rw [Bool.not_true,cond_false,cond_false]
          have hz:(Z1.2.2:ByteArray)=ByteArray.mk #[]:=rfl
          rw [hz]
          have hcr:cost U1 ((st,m,ByteArray.mk #[]):D1)≤T.size:=by rw [resp_cost];simp only [e0];omega
          rw [resp_S k hk _ (by show _≤1048576;omega),Option.bind_some]
          have exr:∀ a w,respOk a=true→noCR w→s.data.toList=respL a w→respOk (st,m,ByteArray.mk #[])=true:=by
            intro a w g1 g2 g3
            obtain ⟨p1,p2,p3,p4,p5⟩:=resp_parts g1
            rw [(exd a w g1 g2 g3).1,(exf a w g1 g2 g3).2.1]
            unfold respOk
            dsimp only
            rw [dT p1,dT p2,p3,dT (show ((ByteArray.mk #[]).size:Int)≤60 by decide),dT (show ByteArray.mk #[]=ByteArray.mk #[] from rfl)]
            simp
          cases hro:respOk (st,m,ByteArray.mk #[]) with
          | false=>exact ⟨_,rfl,no_resp s 0 2 fun a w g1 g2 g3=>by rw [exr a w g1 g2 g3] at hro;cases hro⟩
          | true =>
            rw [Bool.not_true,cond_false,w64 (n:=((i+2:Nat):Int)+((T.size-r.length:Nat):Int)) (by omega) (by omega)]
            have hcut:((i+2:Nat):Int)+((T.size-r.length:Nat):Int)=((s.size-r.length:Nat):Int):=by omega
            rw [hcut]
            have exb:bare st=true→RespR s (((st,m,ByteArray.mk #[]):D1),((s.size-r.length:Nat):Int),(0:Int)):=by
              intro hb
              refine ⟨by simp only;omega,fun a w g1 g2 g3=>?_⟩
              obtain ⟨p1,p2,p3,p4,p5⟩:=resp_parts g1
              have q1:=(exd a w g1 g2 g3).1
              have q2:=exf a w g1 g2 g3
              rw [q1] at hb
              have q3:=p5 hb
              have q4:r.length=0:=by rw [q2.2.2,q3];rfl
              rw [q1,q2.2.1,q4,← q3]
              rfl
            cases h204:decide (st=204) with
            | true =>
              rw [cond_true]
              exact ⟨_,rfl,exb (by unfold bare;rw [h204];rfl)⟩
            | false =>
              rw [cond_false]
              cases h304:decide (st=304) with
              | true =>
                rw [cond_true]
                exact ⟨_,rfl,exb (by unfold bare;rw [h304,Bool.or_true])⟩
              | false =>
                rw [cond_false,dT (show 0≤((s.size-r.length:Nat):Int)∧((s.size-r.length:Nat):Int)≤(s.size:Int)∧(s.size:Int)≤(s.size:Int) by omega),cond_true,Int.toNat_natCast]
                have hbd:(s.extract (s.size-r.length) s.size).data.toList=r:=by
                  rw [tail_data]
                  have:s.data.toList.drop (s.size-r.length)=T.data.toList.drop (T.size-r.length):=by
                    rw [hT,tail_data,List.drop_drop,tail_size]
                    congr 1;omega
                  rw [this,hrd]
                have hbs:(s.extract (s.size-r.length) s.size).size=r.length:=by rw [size_data,hbd]
                obtain ⟨⟨body,n,c⟩,hB,⟨c1,⟨n',c2,c3⟩,c4⟩,c5⟩:=body_S k hk l (by show _≤1048576;omega) (s.extract (s.size-r.length) s.size) (by rw [hbs];show _≤1048576;omega)
                rw [hB,Option.bind_some]
                dsimp only at c1 c2 c3 c4 c5 ⊢
                have exB:∀ a w,respOk a=true→noCR w→s.data.toList=respL a w→body=a.2.2∧n=(r.length:Int)∧c=0:=by
                  intro a w g1 g2 g3
                  obtain ⟨p1,p2,p3,p4,p5⟩:=resp_parts g1
                  have q1:=(exd a w g1 g2 g3).1
                  have q2:=exf a w g1 g2 g3
                  have hnb:bare a.1=false:=by unfold bare;rw [← q1,h204,h304];rfl
                  have hrl2:r.length=a.2.2.size:=by rw [q2.2.2,← size_data]
                  have:=c5 a.2.2.size p4 (by rw [q2.1];exact framed_sized g1 hnb) (by rw [hbs,hrl2])
                  have e1:=congrArg Prod.fst this
                  have e2:=congrArg (fun z=>z.2.1) this
                  have e3:=congrArg (fun z=>z.2.2) this
                  dsimp only at e1 e2 e3
                  refine ⟨?_,by omega,e3⟩
                  rw [e1]
                  apply bytes_ext
                  rw [hbd,q2.2.2]
                cases hc0:decide (c=0) with
                | false =>
                  rw [Bool.not_false,cond_true]
                  have hcode:∃ q,F148 k c=some q:=by
                    unfold F148
                    cases decide (c=0) <;> cases decide (c=1) <;> exact ⟨_,rfl⟩
                  obtain ⟨q,hq⟩:=hcode
                  rw [hq,Option.bind_some]
                  exact ⟨_,rfl,no_resp s 0 q fun a w g1 g2 g3=>of_decide_eq_false hc0 (exB a w g1 g2 g3).2.2⟩
                | true =>
                  rw [Bool.not_true,cond_false,c2,w64 (n:=((s.size-r.length:Nat):Int)+(n':Int)) (by omega) (by omega)]
                  refine ⟨_,rfl,?_,fun a w g1 g2 g3=>?_⟩
                  · rw [resp_cost];simp only;omega
                  · obtain ⟨q3,q4,_⟩:=exB a w g1 g2 g3
                    rw [q3,(exd a w g1 g2 g3).1,(exf a w g1 g2 g3).2.1]
                    have:((s.size-r.length:Nat):Int)+(n':Int)=(s.size:Int):=by omega
                    rw [this]
end Go.Proofs.YtigbabjhcihmaaaGreatDoor.Fns
namespace Go.Proofs.YtigbabjhcihmaaaGreatDoor.Fns
open Go Go.RowKit Go.Proofs Go.Proofs.YtigbabjhcihmaaaGreatDoor.Ev Go.Proofs.YtigbabjhcihmaaaGreatDoor.Pl
set_option linter.unusedVariables false
set_option linter.unusedSimpArgs false
set_option maxRecDepth 100000
abbrev others (name:ByteArray) (l:List D0):List D0:=l.filter fun f=>!decide (f.1=name)
theorem others_take {name:ByteArray} {l:List D0} {j:Nat} (h:j<l.length):others name (l.take (j+1))=if l[j].1=name then others name (l.take j) else others name (l.take j)++[l[j]]:=by
  unfold others
  rw [List.take_succ_eq_append_getElem h,List.filter_append]
  by_cases e:l[j].1=name
  · rw [if_pos e];simp [e]
  · rw [if_neg e];simp [e]
theorem drop_I (k:Nat) (hk:fuel<k) (l:List D0) (name:ByteArray) (hc:l.length≤1048576):F240 k l name=some (others name l):=by
  have hk':2097152<k:=hk
  unfold F240 semClone
  rw [dT (show l.length≤34359738368 by omega),cond_true,Option.bind_some]
  suffices h:∀ (d i j:Nat),l.length-i≤d→d<j→i≤l.length→(∀ p (hp:p<l.length),p<i→¬ l[p].1=name)→iter (σ:=Int × Unit) _ j ((i:Int),())=some (others name l) from h l.length 0 k (by omega) (by omega) (Nat.zero_le _) (fun p _ hp=>by omega)
  have all':(∀ p (hp:p<l.length),p<l.length→¬ l[p].1=name)→others name l=l:=fun h=>by
    unfold others
    rw [List.filter_eq_self]
    intro f hf
    obtain ⟨p,hp,rfl⟩:=List.getElem_of_mem hf
    simpa using h p hp hp
  intro d
  induction d with
  | zero =>
    intro i j hd hj hi hno
    obtain ⟨j,rfl⟩:∃ m,j=m+1:=⟨j-1,by omega⟩
    have:i=l.length:=by omega
    subst this
    simp only [iter]
    rw [dF (show ¬ (l.length:Int)<(l.length:Int) by omega),cond_false,dT trivial,cond_true,all' hno]
  | succ d ih =>
    intro i j hd hj hi hno
    obtain ⟨j,rfl⟩:∃ m,j=m+1:=⟨j-1,by omega⟩
    simp only [iter]
    by_cases hil:i<l.length
    case neg =>
      have:i=l.length:=by omega
      subst this
      rw [dF (show ¬ (l.length:Int)<(l.length:Int) by omega),cond_false,dT trivial,cond_true,all' hno]
    rw [dT (show (i:Int)<(l.length:Int) by omega),cond_true,dT (show 0≤(i:Int)∧(i:Int)<(l.length:Int) by omega),cond_true,Int.toNat_natCast,getD_lt hil]
    by_cases hn:l[i].1=name
    case neg =>
      rw [dF hn,cond_false,w64 (n:=(i:Int)+1) (by omega) (by omega)]
      have:=ih (i+1) j (by omega) (by omega) (by omega) (fun p hp hpi=>by
        rcases Nat.lt_or_ge p i with q | q
        · exact hno p hp q
        · have:p=i:=by omega
          subst this;exact hn)
      exact this
    rw [dT hn,cond_true,dF (show ¬ (i:Int) = -1 by omega),cond_false,w64 (n:=(i:Int)+1) (by omega) (by omega)]
    have start:others name (l.take (i+1))=l.take i:=by
      rw [others_take hil,if_pos hn]
      unfold others
      rw [List.filter_eq_self]
      intro f hf
      obtain ⟨p,hp,rfl⟩:=List.getElem_of_mem hf
      rw [List.length_take] at hp
      have:=hno p (by omega) (by omega)
      simpa using this
    refine iter_any (fun q x=>∃ (a:Nat) (m:List D0),x=((a:Int),((i+1+q:Nat):Int),m,())∧a<i+1+q∧m.length=l.length∧m.take a=others name (l.take (i+1+q))∧∀ p,i+1+q≤p→m[p]? = l[p]?) (some (others name l)) (l.length-(i+1)) ?_ ?_ k 0 _ ⟨i,l,rfl,by omega,rfl,start.symm,fun p _=>rfl⟩ (Nat.zero_le _) (by omega)
    · rintro q x rec ⟨a,m,rfl,h1,h2,h3,h4⟩ hq hrec
      have hlt:i+1+q<l.length:=by omega
      have hm:m.getD (i+1+q) Z0=l[i+1+q]:=by
        rw [List.getD_eq_getElem?_getD,h4 _ (Nat.le_refl _),List.getElem?_eq_getElem hlt];rfl
      dsimp only
      rw [h2,dT (show ((i+1+q:Nat):Int)<(l.length:Int) by omega),cond_true,dT (show 0≤((i+1+q:Nat):Int)∧((i+1+q:Nat):Int)<(l.length:Int) by omega),cond_true,Int.toNat_natCast,hm,w64 (n:=((i+1+q:Nat):Int)+1) (by omega) (by omega)]
      have e1:((i+1+q:Nat):Int)+1=((i+1+(q+1):Nat):Int):=by omega
      by_cases hx:l[i+1+q].1=name
      · rw [dT hx,Bool.not_true,cond_false,e1]
        exact hrec _ ⟨a,m,rfl,by omega,h2,by rw [h3,← Nat.add_assoc,others_take hlt,if_pos hx],fun p hp=>h4 p (by omega)⟩
      · rw [dF hx,Bool.not_false,cond_true,dT (show 0≤(a:Int)∧(a:Int)<(l.length:Int) by omega),cond_true,w64 (n:=(a:Int)+1) (by omega) (by omega),e1,Int.toNat_natCast]
        refine hrec _ ⟨a+1,m.set a l[i+1+q],rfl,by omega,by rw [List.length_set];exact h2,?_,fun p hp=>?_⟩
        · rw [← Nat.add_assoc,others_take hlt,if_neg hx,← h3]
          have hal:a<(m.set a l[i+1+q]).length:=by rw [List.length_set];omega
          rw [List.take_succ_eq_append_getElem hal]
          congr 1
          · rw [List.take_set_of_le (Nat.le_refl _)]
          · simp
        · rw [List.getElem?_set_ne (by omega)]
          exact h4 p (by omega)
    · rintro x rec ⟨a,m,rfl,h1,h2,h3,h4⟩
      have e1:i+1+(l.length-(i+1))=l.length:=by omega
      rw [e1] at h1 h3 ⊢
      rw [List.take_length] at h3
      dsimp only
      rw [h2,dF (show ¬ (l.length:Int)<(l.length:Int) by omega),cond_false,dT (show 0≤(a:Int)∧(a:Int)<(l.length:Int) by omega),cond_true,Int.toNat_natCast]
      have hlen2:(m.take a++List.replicate (l.length-a) Z0).length=l.length:=by rw [List.length_append,List.length_take,List.length_replicate];omega
      rw [dT (show 0≤(a:Int)∧(a:Int)≤((m.take a++List.replicate (l.length-a) Z0).length:Int) by rw [hlen2];omega),cond_true]
      have:(m.take a).length=a:=by rw [List.length_take];omega
      rw [List.take_append_of_le_length (by omega),List.take_of_length_le (by omega),h3]
theorem without_I (k:Nat) (hk:fuel<k) (l:List D0) (hc:l.length≤1048576):F155 k l=some (others nTE (others nCL l)):=by
  unfold F155
  rw [drop_I k hk l _ hc,Option.bind_some,drop_I k hk _ _ (Nat.le_trans (List.length_filter_le _ _) hc),Option.bind_some]
theorem readR_I (k:Nat) (hk:fuel<k) (s:ByteArray) (hs:s.size≤big):∃ r,F63 k s=some r∧RespR s r:=by
  have hk':2097152<k:=hk
  have hs':s.size≤1048576:=hs
  have hlen:s.data.toList.length=s.size:=(size_data s).symm
  have e0:(ByteArray.mk #[]).size=0:=rfl
  unfold F63
  obtain ⟨⟨ps,fs,rest,c⟩,hh,hd1,hd2,hd3,hd4,hd5⟩:=head_I k hk s hs
  rw [hh,Option.bind_some]
  dsimp only at hd1 hd2 hd3 hd4 hd5 ⊢
  have ex:∀ a w,respOk a=true→noCR w→s.data.toList=respL a w→ps.getD 0 (ByteArray.mk #[])=ByteArray.mk #[72,84,84,80,47,49,46,49]∧ps.getD 1 (ByteArray.mk #[])=⟨(Lib.itoa a.1).toArray⟩∧fs=framedF a∧rest=a.2.2∧c=0:=by
    intro a w g1 g2 g3
    obtain ⟨p1,p2,_⟩:=resp_parts g1
    have hb:=(itoa_bytes p1 p2).2
    have:=hd5 [72,84,84,80,47,49,46,49] (Lib.itoa a.1) w.data.toList ((framedF a).flatMap fieldL++13 :: 10 :: a.2.2.data.toList) (framedF a) a.2.2.data.toList (by rw [g3,respL_eq];rfl) (by decide) hb g2 (by rw [g3];exact respL_whole a w) (readF_framed g1 _)
    exact this
  cases hc:decide (c=0) with
  | false =>
    rw [Bool.not_false,cond_true]
    exact ⟨_,rfl,no_resp s 0 c fun a w g1 g2 g3=>of_decide_eq_false hc (ex a w g1 g2 g3).2.2.2.2⟩
  | true =>
    have hl3:=hd1 (of_decide_eq_true hc)
    rw [Bool.not_true,cond_false,dT (show (0:Int)≤1∧(1:Int)<(ps.length:Int) by omega),cond_true]
    have t1:(1:Int).toNat=1:=rfl
    have t0:(0:Int).toNat=0:=rfl
    rw [t1]
    obtain ⟨code,hcode⟩:∃ x,x=ps.getD 1 (ByteArray.mk #[]):=⟨_,rfl⟩
    obtain ⟨v,hv0⟩:∃ x,x=ps.getD 0 (ByteArray.mk #[]):=⟨_,rfl⟩
    have hcs:code.size≤s.size:=by
      rw [hcode,getD_lt (by omega)]
      exact hd2 _ (List.getElem_mem _)
    rw [t0,← hcode,← hv0]
    rw [← hcode,← hv0] at ex
    obtain ⟨⟨st,okd⟩,_,hd,hdr⟩:=read_same k hk code (by omega)
    rw [hd,Option.bind_some]
    have exd:∀ a w,respOk a=true→noCR w→s.data.toList=respL a w→st=a.1∧okd=true:=by
      intro a w g1 g2 g3
      obtain ⟨p1,p2,_⟩:=resp_parts g1
      have:=readI_ok k code a.1 (by omega) (by omega) (by rw [(ex a w g1 g2 g3).2.1]) (by omega)
      rw [hd] at this
      cases this
      exact ⟨rfl,rfl⟩
    dsimp only
    have hll:fs.length≤cost (.slice U0) fs:=cost_len (e:=U0) fs
    rw [without_I k hk fs (by omega),Option.bind_some]
    obtain ⟨m,hm⟩:∃ m,m=others nTE (others nCL fs):=⟨_,rfl⟩
    have hmc:cost (.slice U0) m≤cost (.slice U0) fs:=by rw [hm];exact Nat.le_trans (cost_filter _ _) (cost_filter _ _)
    rw [← hm]
    have exf:∀ a w,respOk a=true→noCR w→s.data.toList=respL a w→m=a.2.1:=by
      intro a w g1 g2 g3
      rw [hm,(ex a w g1 g2 g3).2.2.1];exact drop_framed' g1
    rw [dT (show (0:Int)≤0∧(0:Int)<(ps.length:Int) by omega),cond_true]
    cases hv:decide (v=ByteArray.mk #[72,84,84,80,47,49,46,49]) with
    | false=>exact ⟨_,rfl,no_resp s 0 2 fun a w g1 g2 g3=>of_decide_eq_false hv (ex a w g1 g2 g3).1⟩
    | true =>
      rw [Bool.not_true,cond_false]
      cases hok:okd with
      | false=>exact ⟨_,rfl,no_resp s 0 2 fun a w g1 g2 g3=>by have:=(exd a w g1 g2 g3).2;rw [hok] at this;cases this⟩
      | true =>
        rw [Bool.not_true,cond_false,cond_true]
        cases h3:decide ((code.size:Int)=3) with
        | false=>exact ⟨_,rfl,no_resp s 0 2 fun a w g1 g2 g3=>of_decide_eq_false h3 (by
            obtain ⟨p1,p2,_⟩:=resp_parts g1
            rw [(ex a w g1 g2 g3).2.1,mk_size,(itoa_bytes p1 p2).1];rfl)⟩
        | true =>
          rw [Bool.not_true,cond_false]
          have hz:(Z1.2.2:ByteArray)=ByteArray.mk #[]:=rfl
          rw [hz]
          have hcr:cost U1 ((st,m,ByteArray.mk #[]):D1)≤cost (.slice U0) fs:=by rw [resp_cost];simp only [e0];omega
          rw [resp_I k hk _ (by show _≤1048576;omega),Option.bind_some]
          have exr:∀ a w,respOk a=true→noCR w→s.data.toList=respL a w→respOk (st,m,ByteArray.mk #[])=true:=by
            intro a w g1 g2 g3
            obtain ⟨p1,p2,p3,p4,p5⟩:=resp_parts g1
            rw [(exd a w g1 g2 g3).1,exf a w g1 g2 g3]
            unfold respOk
            dsimp only
            rw [dT p1,dT p2,p3,dT (show ((ByteArray.mk #[]).size:Int)≤60 by decide),dT (show ByteArray.mk #[]=ByteArray.mk #[] from rfl)]
            simp
          cases hro:respOk (st,m,ByteArray.mk #[]) with
          | false=>exact ⟨_,rfl,no_resp s 0 2 fun a w g1 g2 g3=>by rw [exr a w g1 g2 g3] at hro;cases hro⟩
          | true =>
            rw [Bool.not_true,cond_false,bare_I,Option.bind_some,w64 (n:=(s.size:Int)-(rest.size:Int)) (by omega) (by omega)]
            cases hb:bare st with
            | true =>
              rw [cond_true]
              refine ⟨_,rfl,by simp only;omega,fun a w g1 g2 g3=>?_⟩
              obtain ⟨p1,p2,p3,p4,p5⟩:=resp_parts g1
              have q1:=(exd a w g1 g2 g3).1
              have q2:=ex a w g1 g2 g3
              rw [q1] at hb
              have q3:=p5 hb
              rw [q1,exf a w g1 g2 g3,q2.2.2.2.1,q3,e0,← q3]
              simp
            | false =>
              rw [cond_false]
              obtain ⟨⟨body,n,c'⟩,hB,⟨c1,⟨n',c2,c3⟩,c4⟩,c5⟩:=body_I' k hk fs (by show _≤1048576;omega) rest (by show _≤1048576;omega)
              rw [hB,Option.bind_some]
              dsimp only at c1 c2 c3 c4 c5 ⊢
              have exB:∀ a w,respOk a=true→noCR w→s.data.toList=respL a w→body=a.2.2∧n=(rest.size:Int)∧c'=0:=by
                intro a w g1 g2 g3
                obtain ⟨p1,p2,p3,p4,p5⟩:=resp_parts g1
                have q1:=(exd a w g1 g2 g3).1
                have q2:=ex a w g1 g2 g3
                have hnb:bare a.1=false:=by rw [← q1,hb]
                have:=c5 a.2.2.size p4 (by rw [q2.2.2.1];exact framed_sized g1 hnb) (by rw [q2.2.2.2.1])
                have e1:=congrArg Prod.fst this
                have e2:=congrArg (fun z=>z.2.1) this
                have e3:=congrArg (fun z=>z.2.2) this
                dsimp only at e1 e2 e3
                exact ⟨by rw [e1,q2.2.2.2.1],by rw [e2,q2.2.2.2.1],e3⟩
              cases hc0:decide (c'=0) with
              | false =>
                rw [Bool.not_false,cond_true]
                have hcode:∃ q,F159 k c'=some q:=by
                  unfold F159
                  cases decide (c'=0) <;> cases decide (c'=1) <;> exact ⟨_,rfl⟩
                obtain ⟨q,hq⟩:=hcode
                rw [hq,Option.bind_some]
                exact ⟨_,rfl,no_resp s 0 q fun a w g1 g2 g3=>of_decide_eq_false hc0 (exB a w g1 g2 g3).2.2⟩
              | true =>
                rw [Bool.not_true,cond_false,c2,w64 (n:=(s.size:Int)-(rest.size:Int)+(n':Int)) (by omega) (by omega)]
                refine ⟨_,rfl,?_,fun a w g1 g2 g3=>?_⟩
                · rw [resp_cost];simp only;omega
                · obtain ⟨q3,q4,_⟩:=exB a w g1 g2 g3
                  rw [q3,(exd a w g1 g2 g3).1,exf a w g1 g2 g3]
                  have:(s.size:Int)-(rest.size:Int)+(n':Int)=(s.size:Int):=by omega
                  rw [this]
end Go.Proofs.YtigbabjhcihmaaaGreatDoor.Fns
namespace Go.Proofs.YtigbabjhcihmaaaGreatDoor.Fns
open Go Go.RowKit Go.Proofs Go.Proofs.YtigbabjhcihmaaaGreatDoor.Ev Go.Proofs.YtigbabjhcihmaaaGreatDoor.Pl
set_option linter.unusedVariables false
set_option linter.unusedSimpArgs false
set_option maxRecDepth 100000
def pickL (f:D0):List UInt8:=ltext f.1++ltext f.2
def storedL (a:D2) (w:ByteArray):List UInt8 :=
  ltext a.1++(varL a.2.1.length++(a.2.1.flatMap pickL++(ltext ⟨(respL a.2.2.1 w).toArray⟩++(varL a.2.2.2.1.toNat++varL a.2.2.2.2.toNat))))
theorem stored_parts {a:D2} (h:storedOk a=true):a.1.size≤20∧respOk a.2.2.1=true∧0≤a.2.2.2.1∧a.2.2.2.1≤2000000000∧0≤a.2.2.2.2∧a.2.2.2.2≤2000000000∧a.2.1.length≤12:=by
  unfold storedOk uriOk at h
  simp only [Bool.and_eq_true,decide_eq_true_eq] at h
  obtain ⟨⟨⟨⟨⟨_,h1⟩,h2⟩,h3⟩,h4⟩,h5⟩:=h
  exact ⟨h1.1.2,h2,h3.1,h3.2,by omega,h4.2,by omega⟩
theorem stored_ty {a:D2} (h:storedOk a=true) (hc:cost U2 a≤big):Ty.Ok U2 a:=by
  obtain ⟨h1,h2,h3,h4,h5,h6,h7⟩:=stored_parts h
  obtain ⟨r1,r2,r3,r4,r5⟩:=resp_parts h2
  have hs:=stored_cost (a:=a)
  have hr:=resp_cost (a:=a.2.2.1)
  have hc':cost U2 a≤1048576:=hc
  have hm:(1048576:Nat)≤maxLen:=by decide
  have hf:∀ l:List D0,cost (.slice U0) l≤1048576→Ty.Ok (.slice U0) l:=fun l hl=>by
    refine ⟨Nat.le_trans (cost_len (e:=U0) l) (by omega),fun f hf=>?_⟩
    have:=cost_mem (e:=U0) hf
    rw [field_cost] at this
    exact ⟨show f.1.size≤maxLen by omega,show f.2.size≤maxLen by omega⟩
  have hi:∀ n:Int,0≤n→n≤2000000000→Ty.Ok (.int .i64) n:=fun n g1 g2=>⟨by show (-9223372036854775808:Int)≤n;omega,by show n≤(9223372036854775807:Int);omega⟩
  exact ⟨show a.1.size≤maxLen by omega,hf _ (by omega),⟨hi _ (by omega) (by omega),hf _ (by omega),show a.2.2.1.2.2.size≤maxLen by omega⟩,hi _ h3 h4,hi _ h5 h6⟩
theorem flat_texted (k:Nat) (hk:fuel<k):∀ (l:List D0),(∀ f∈l,f.1.size≤1048576∧f.2.size≤1048576)→(l.flatMap fun f=>(texted k f.1++texted k f.2).data.toList)=l.flatMap pickL
  | [],_=>rfl
  | f :: l,h=>by
    rw [List.flatMap_cons,List.flatMap_cons,flat_texted k hk l fun g hg=>h g (List.mem_cons_of_mem _ hg)]
    obtain ⟨h1,h2⟩:=h f (List.mem_cons_self ..)
    rw [append_data,text_val k hk f.1 (by omega),text_val k hk f.2 (by omega)]
    rfl
theorem showS_val (k:Nat) (hk:fuel<k) (a:D2) (ho:storedOk a=true) (hc:cost U2 a≤big):∃ w,noCR w∧F60 k a=some ⟨(storedL a w).toArray⟩:=by
  have h:=stored_cost (a:=a)
  have hc':cost U2 a≤1048576:=hc
  have hk':2097152<k:=hk
  obtain ⟨s1,s2,s3,s4,s5,s6,s7⟩:=stored_parts ho
  have ok:=stored_ty ho hc
  unfold F60
  rw [stored_S k hk a hc,ho]
  simp only [Option.bind_some,Bool.not_true,cond_false]
  have hlen:a.2.1.length≤cost (.slice U0) a.2.1:=cost_len (e:=U0) a.2.1
  have hcc:cost (.slice U0) a.2.1=a.2.1.length+(a.2.1.map (cost U0)).sum:=rfl
  obtain ⟨u1,u2,u3⟩:=texted_eq k hk a.1 (by omega)
  have n1:=var_val k hk a.2.1.length (by show _≤562949953421311;omega)
  have n2:=var_len 7 a.2.1.length (by omega)
  obtain ⟨rw',r0,_,r1⟩:=showR_val k hk a.2.2.1 s2 (by show _≤1048576;omega)
  obtain ⟨r',r1',_,r3⟩:=showR_same k hk a.2.2.1 (stored_resp ok) (by show _≤1048576;omega)
  rw [r1] at r1'
  cases r1'
  obtain ⟨t1,t2,t3⟩:=texted_eq k hk ⟨(respL a.2.2.1 rw').toArray⟩ (by omega)
  have e1:((a.2.2.2.1.toNat:Nat):Int)=a.2.2.2.1:=by omega
  have e2:((a.2.2.2.2.toNat:Nat):Int)=a.2.2.2.2:=by omega
  have v1:=var_val k hk a.2.2.2.1.toNat (by show _≤562949953421311;omega)
  have w1:=var_val k hk a.2.2.2.2.toNat (by show _≤562949953421311;omega)
  rw [e1] at v1
  rw [e2] at w1
  have v2:=var_len 7 a.2.2.2.1.toNat (by omega)
  have w2:=var_len 7 a.2.2.2.2.toNat (by omega)
  refine ⟨rw',r0,?_⟩
  simp only [u1,n1,Option.bind_some]
  have hel:∀ f∈a.2.1,f.1.size≤1048576∧f.2.size≤1048576:=fun f hf=>by
    have h1:cost U0 f≤cost (.slice U0) a.2.1:=cost_mem hf
    rw [field_cost] at h1
    omega
  have hsum:(a.2.1.map fun f=>(texted k f.1++texted k f.2).size).sum≤16*a.2.1.length+(a.2.1.map (cost U0)).sum:=sum_cost (e:=U0) (fun f=>(texted k f.1++texted k f.2).size) 16 a.2.1 fun f hf=>by
    have h1:=(texted_eq k hk f.1 (by have:=(hel f hf).1;omega)).2.2
    have h2:=(texted_eq k hk f.2 (by have:=(hel f hf).2;omega)).2.2
    rw [field_cost]
    simp only [ByteArray.size_append]
    omega
  obtain ⟨n,hn⟩:∃ n,n=ByteArray.mk (varL a.2.1.length).toArray:=⟨_,rfl⟩
  obtain ⟨v,hv⟩:∃ v,v=ByteArray.mk (varL a.2.2.2.1.toNat).toArray:=⟨_,rfl⟩
  obtain ⟨w,hw⟩:∃ w,w=ByteArray.mk (varL a.2.2.2.2.toNat).toArray:=⟨_,rfl⟩
  obtain ⟨r,hr⟩:∃ r,r=ByteArray.mk (respL a.2.2.1 rw').toArray:=⟨_,rfl⟩
  have hns:n.size≤8:=by rw [hn,mk_size];exact n2
  have hvs:v.size≤8:=by rw [hv,mk_size];exact v2
  have hws:w.size≤8:=by rw [hw,mk_size];exact w2
  rw [← hn]
  rw [← hv] at v1
  rw [← hw] at w1
  rw [← hr] at r1 r3 t1 t2 t3
  rw [fits (by omega),cond_true]
  have hM:(texted k a.1++n).size+(a.2.1.map fun f=>(texted k f.1++texted k f.2).size).sum≤33554432:=by
    rw [ByteArray.size_append];omega
  have fin:(⟨(storedL a rw').toArray⟩:ByteArray)=((a.2.1.foldl (fun x f=>x++(texted k f.1++texted k f.2)) (texted k a.1++n)++texted k r)++v)++w:=by
    apply bytes_ext
    rw [append_data,append_data,append_data,foldl_data,flat_texted k hk _ hel,append_data,text_val k hk a.1 (by omega),text_val k hk r (by omega),hn,hv,hw,hr]
    unfold storedL
    simp
  rw [fin]
  refine (iter_text a.2.1 (fun f=>texted k f.1++texted k f.2) 33554432 (fun x=>some (((x++texted k r)++v)++w)) (fun i hi x rec hx=>?_) (fun x rec hx=>?_) k _ hM (by omega))
  · have hf:=hel _ (List.getElem_mem hi)
    obtain ⟨e1,e2,e3⟩:=texted_eq k hk a.2.1[i].1 (by omega)
    obtain ⟨g1,g2,g3⟩:=texted_eq k hk a.2.1[i].2 (by omega)
    simp only [Int.toNat_natCast]
    rw [dT (show (i:Int)<(a.2.1.length:Int) by omega),dT (show 0≤(i:Int)∧(i:Int)<(a.2.1.length:Int) by omega),w64 (n:=(i:Int)+1) (by omega) (by omega)]
    simp only [cond_true,getD_lt hi,e1,g1,Option.bind_some]
    rw [fits (by omega),fits (by simp only [ByteArray.size_append];omega)]
    simp only [cond_true,ba_assoc,Int.natCast_add,Int.cast_ofNat_Int]
  · simp only
    rw [dF (show ¬ (a.2.1.length:Int)<(a.2.1.length:Int) by omega)]
    simp only [cond_false,r1,t1,v1,w1,Option.bind_some]
    rw [fits (by omega),fits (by simp only [ByteArray.size_append];omega),fits (by simp only [ByteArray.size_append];omega)]
    rfl
theorem showS_any (k:Nat) (hk:fuel<k) (a:D2) (hc:cost U2 a≤big):∃ t,F60 k a=some t∧F64 k a=some t∧(t=ByteArray.mk #[]∨(storedOk a=true∧∃ w,noCR w∧t.data.toList=storedL a w)):=by
  cases ho:storedOk a with
  | false =>
    refine ⟨ByteArray.mk #[],?_,?_,Or.inl rfl⟩
    · unfold F60
      rw [stored_S k hk a hc,ho];rfl
    · unfold F64
      rw [stored_I k hk a hc,ho];rfl
  | true =>
    obtain ⟨t,h1,h2,_⟩:=showS_same k hk a (stored_ty ho hc) hc
    obtain ⟨w,h3,h4⟩:=showS_val k hk a ho hc
    rw [h4] at h1
    cases h1
    exact ⟨_,h4,h2,Or.inr ⟨rfl,w,h3,rfl⟩⟩
end Go.Proofs.YtigbabjhcihmaaaGreatDoor.Fns
namespace Go.Proofs.YtigbabjhcihmaaaGreatDoor.Fns
open Go Go.RowKit Go.Proofs Go.Proofs.YtigbabjhcihmaaaGreatDoor.Ev Go.Proofs.YtigbabjhcihmaaaGreatDoor.Pl
set_option linter.unusedVariables false
set_option linter.unusedSimpArgs false
set_option maxRecDepth 100000
abbrev noSt:D2:=(Z2.1,([]:List D0),(Z2.2.2.1.1,([]:List D0),Z2.2.2.1.2.2),Z2.2.2.2.1,Z2.2.2.2.2)
theorem noSt_cost:cost U2 noSt=0:=by kernel_rfl
def StR (k:Nat) (s:ByteArray) (r:D2 × Bool):Prop :=
  (r.2=true→cost U2 r.1≤s.size∧storedOk r.1=true∧F60 k r.1=some s)∧(r.2=false→r.1=noSt) ∧
  ∀ a,storedOk a=true→cost U2 a≤big→F60 k a=some s→r=(a,true)
theorem st_none (k:Nat) (s:ByteArray) (h:∀ a,storedOk a=true→cost U2 a≤big→F60 k a=some s→False):StR k s (noSt,false) :=
  ⟨fun h=>(by cases h),fun _=>rfl,fun a h1 h2 h3=>(h a h1 h2 h3).elim⟩
theorem storedL_pos (a:D2) (w:ByteArray):0<(storedL a w).length:=by
  unfold storedL ltext
  have:=var_pos a.1.size
  rw [List.length_append,List.length_append]
  omega
noncomputable def finS (k:Nat) (s:ByteArray) (q:Int) (uri:ByteArray) (picks:List D0):Option (D2 × Bool) :=
  (F57 k s q).bind fun r16=>(F59 k r16.1).bind fun r17=>(F58 k s r16.2).bind fun r18=>(F58 k s r18.2).bind fun r19 =>
    (bif (!decide (r19.2=(s.size:Int))) then some (noSt,false) else (bif (decide (s=(ByteArray.mk #[]))) then some (noSt,false) else
      ((F60 k (uri,picks,r17.1,r18.1,r19.1)).bind fun r20=>(bif (!decide (r20=s)) then some (noSt,false) else some ((uri,picks,r17.1,r18.1,r19.1),true)))))
theorem num_le {s:ByteArray} {q:Int} {r:Int × Int} (h:ReadsNum s q r):r.2≤(s.size:Int)∧(0≤r.2→∃ p:Nat,q=(p:Int)∧(p:Int)<r.2):=by
  rcases h.1 with rfl | ⟨p,n,m,rfl,rfl,_,h2,h3⟩
  · exact ⟨by simp only;omega,fun h=>by simp only at h;omega⟩
  · exact ⟨by simp only;omega,fun _=>⟨p,rfl,by simp only;omega⟩⟩
theorem text_le {s:ByteArray} {q:Int} {r:ByteArray × Int} (h:ReadsText s q r):r.2≤(s.size:Int)∧r.1.size≤s.size∧(0≤r.2→∃ p:Nat,q=(p:Int)∧(p:Int)+(r.1.size:Int)<r.2):=by
  have e0:(ByteArray.mk #[]).size=0:=rfl
  rcases h.1 with rfl | ⟨p,m,rfl,hr,h2,h3⟩
  · exact ⟨by simp only;omega,by simp only [e0];omega,fun h=>by simp only at h;omega⟩
  · rw [hr]
    exact ⟨by omega,by omega,fun _=>⟨p,rfl,by omega⟩⟩
theorem finS_ok (k:Nat) (hk:fuel<k) (s:ByteArray) (hs:s.size≤big) (q:Int) (hq:q≤(s.size:Int)) (uri:ByteArray) (picks:List D0) (hcost:∀ p:Nat,q=(p:Int)→uri.size+cost (.slice U0) picks≤p)
    (hex:∀ a w,storedOk a=true→noCR w→s.data.toList=storedL a w→∃ p:Nat,q=(p:Int)∧p≤s.size∧uri=a.1∧picks=a.2.1∧s.data.toList.drop p=ltext ⟨(respL a.2.2.1 w).toArray⟩++(varL a.2.2.2.1.toNat++varL a.2.2.2.2.toNat)) :
    ∃ r,finS k s q uri picks=some r∧StR k s r:=by
  have hs':s.size≤1048576:=hs
  have hlen:s.data.toList.length=s.size:=(size_data s).symm
  unfold finS
  obtain ⟨⟨t,q1⟩,a1,a2⟩:=read_S k hk s hs q hq
  obtain ⟨b1,b2,b3⟩:=text_le a2
  dsimp only at b1 b2 b3
  obtain ⟨⟨rp,n0,c0⟩,a3,a4,a5⟩:=readR_S k hk t (by show _≤1048576;omega)
  dsimp only at a4
  obtain ⟨⟨n1,q2⟩,a6,a7⟩:=num_S k hk s hs q1 b1
  obtain ⟨b4,b5⟩:=num_le a7
  dsimp only at b4 b5
  obtain ⟨⟨n2,q3⟩,a8,a9⟩:=num_S k hk s hs q2 b4
  obtain ⟨b6,b7⟩:=num_le a9
  dsimp only at b6 b7
  rw [a1,Option.bind_some]
  dsimp only
  rw [a3,Option.bind_some,a6,Option.bind_some]
  dsimp only
  rw [a8,Option.bind_some]
  dsimp only
  have ex:∀ a w,storedOk a=true→noCR w→s.data.toList=storedL a w→uri=a.1∧picks=a.2.1∧rp=a.2.2.1∧n1=a.2.2.2.1∧n2=a.2.2.2.2∧q3=(s.size:Int):=by
    intro a w g1 g2 g3
    obtain ⟨s1,s2,s3,s4,s5,s6,s7⟩:=stored_parts g1
    obtain ⟨p,rfl,hp,e1,e2,e3⟩:=hex a w g1 g2 g3
    have f1:=a2.2 p _ _ rfl hp e3
    have f1a:=congrArg Prod.fst f1
    have f1b:=congrArg Prod.snd f1
    dsimp only at f1a f1b
    have f2:=congrArg Prod.fst (a5 a.2.2.1 w s2 g2 (by rw [f1a]))
    dsimp only at f2
    have hl:=congrArg List.length e3
    rw [List.length_drop,hlen,List.length_append,List.length_append] at hl
    have d1:s.data.toList.drop (p+(ltext ⟨(respL a.2.2.1 w).toArray⟩).length)=varL a.2.2.2.1.toNat++varL a.2.2.2.2.toNat:=by rw [← List.drop_drop,e3,List.drop_left]
    have f3:=a7.2 (p+(ltext ⟨(respL a.2.2.1 w).toArray⟩).length) a.2.2.2.1.toNat (varL a.2.2.2.2.toNat) f1b (by omega) (by show _≤562949953421311;omega) d1
    have f3a:=congrArg Prod.fst f3
    have f3b:=congrArg Prod.snd f3
    dsimp only at f3a f3b
    have d2:s.data.toList.drop (p+(ltext ⟨(respL a.2.2.1 w).toArray⟩).length+(varL a.2.2.2.1.toNat).length)=varL a.2.2.2.2.toNat++[]:=by rw [← List.drop_drop,d1,List.drop_left,List.append_nil]
    have f4:=a9.2 (p+(ltext ⟨(respL a.2.2.1 w).toArray⟩).length+(varL a.2.2.2.1.toNat).length) a.2.2.2.2.toNat [] f3b (by omega) (by show _≤562949953421311;omega) d2
    have f4a:=congrArg Prod.fst f4
    have f4b:=congrArg Prod.snd f4
    dsimp only at f4a f4b
    exact ⟨e1,e2,f2,by omega,by omega,by omega⟩
  have shown:∀ a,storedOk a=true→cost U2 a≤big→F60 k a=some s→∃ w,noCR w∧s.data.toList=storedL a w:=fun a g1 g2 g3=>by
    obtain ⟨w,h1,h2⟩:=showS_val k hk a g1 g2
    rw [g3] at h2
    cases h2
    exact ⟨w,h1,rfl⟩
  cases hq3:decide (q3=(s.size:Int)) with
  | false =>
    rw [Bool.not_false,cond_true]
    exact ⟨_,rfl,st_none k s fun a g1 g2 g3=>by
      obtain ⟨w,h1,h2⟩:=shown a g1 g2 g3
      exact of_decide_eq_false hq3 (ex a w g1 h1 h2).2.2.2.2.2⟩
  | true =>
    have hq3:=of_decide_eq_true hq3
    rw [Bool.not_true,cond_false]
    cases hse:decide (s=ByteArray.mk #[]) with
    | true =>
      rw [cond_true]
      exact ⟨_,rfl,st_none k s fun a g1 g2 g3=>by
        obtain ⟨w,h1,h2⟩:=shown a g1 g2 g3
        have:=storedL_pos a w
        rw [← h2,of_decide_eq_true hse] at this
        exact absurd this (by decide)⟩
    | false =>
      rw [cond_false]
      obtain ⟨p2,c2,c2'⟩:=b7 (by omega)
      obtain ⟨p1,c1,c1'⟩:=b5 (by omega)
      obtain ⟨p0,c0',c0''⟩:=b3 (by omega)
      have hcc:=hcost p0 c0'
      have hx:cost U2 ((uri,picks,rp,n1,n2):D2)≤s.size:=by rw [stored_cost];dsimp only;omega
      obtain ⟨t',h1,_,h3⟩:=showS_any k hk (uri,picks,rp,n1,n2) (by show _≤1048576;omega)
      rw [h1,Option.bind_some]
      cases hts:decide (t'=s) with
      | false =>
        rw [Bool.not_false,cond_true]
        exact ⟨_,rfl,st_none k s fun a g1 g2 g3=>by
          obtain ⟨w,w1,w2⟩:=shown a g1 g2 g3
          obtain ⟨e1,e2,e3,e4,e5,_⟩:=ex a w g1 w1 w2
          have:((uri,picks,rp,n1,n2):D2)=a:=by rw [e1,e2,e3,e4,e5]
          rw [this,g3] at h1
          cases h1
          exact of_decide_eq_false hts rfl⟩
      | true =>
        have hts:=of_decide_eq_true hts
        subst hts
        rw [Bool.not_true,cond_false]
        refine ⟨_,rfl,fun _=>⟨hx,?_,h1⟩,fun h=>(by cases h),fun a g1 g2 g3=>?_⟩
        · rcases h3 with h3 | h3
          · exact absurd h3 (of_decide_eq_false hse)
          · exact h3.1
        · obtain ⟨w,w1,w2⟩:=shown a g1 g2 g3
          obtain ⟨e1,e2,e3,e4,e5,_⟩:=ex a w g1 w1 w2
          rw [e1,e2,e3,e4,e5]
theorem readSt_S (k:Nat) (hk:fuel<k) (s:ByteArray) (hs:s.size≤big):∃ r,F18 k s=some r∧StR k s r:=by
  have hk':2097152<k:=hk
  have hs':s.size≤1048576:=hs
  have hlen:s.data.toList.length=s.size:=(size_data s).symm
  unfold F18
  obtain ⟨⟨uri,q1⟩,a1,a2⟩:=read_S k hk s hs 0 (by omega)
  obtain ⟨b1,b2,b3⟩:=text_le a2
  dsimp only at b1 b2 b3
  obtain ⟨⟨n,q2⟩,a3,a4⟩:=num_S k hk s hs q1 b1
  obtain ⟨b4,b5⟩:=num_le a4
  dsimp only at b4 b5
  rw [a1,Option.bind_some]
  dsimp only
  rw [a3,Option.bind_some]
  dsimp only
  have ex0:∀ a w,storedOk a=true→noCR w→s.data.toList=storedL a w→uri=a.1∧n=(a.2.1.length:Int)∧∃ p:Nat,q2=(p:Int)∧p≤s.size∧s.data.toList.drop p=a.2.1.flatMap pickL++(ltext ⟨(respL a.2.2.1 w).toArray⟩++(varL a.2.2.2.1.toNat++varL a.2.2.2.2.toNat)):=by
    intro a w g1 g2 g3
    obtain ⟨s1,s2,s3,s4,s5,s6,s7⟩:=stored_parts g1
    have e3:s.data.toList.drop 0=ltext a.1++(varL a.2.1.length++(a.2.1.flatMap pickL++(ltext ⟨(respL a.2.2.1 w).toArray⟩++(varL a.2.2.2.1.toNat++varL a.2.2.2.2.toNat)))):=by rw [List.drop_zero,g3];rfl
    have f1:=a2.2 0 _ _ rfl (Nat.zero_le _) e3
    have f1a:=congrArg Prod.fst f1
    have f1b:=congrArg Prod.snd f1
    dsimp only at f1a f1b
    have hl:=congrArg List.length e3
    rw [List.length_drop,hlen,List.length_append,List.length_append] at hl
    have d1:s.data.toList.drop (0+(ltext a.1).length)=varL a.2.1.length++(a.2.1.flatMap pickL++(ltext ⟨(respL a.2.2.1 w).toArray⟩++(varL a.2.2.2.1.toNat++varL a.2.2.2.2.toNat))):=by rw [← List.drop_drop,e3,List.drop_left]
    have f3:=a4.2 (0+(ltext a.1).length) a.2.1.length _ f1b (by omega) (by show _≤562949953421311;omega) d1
    have f3a:=congrArg Prod.fst f3
    have f3b:=congrArg Prod.snd f3
    dsimp only at f3a f3b
    refine ⟨f1a,f3a,_,f3b,by omega,?_⟩
    rw [← List.drop_drop,d1,List.drop_left]
  have hc0:∀ p:Nat,q2=(p:Int)→uri.size+cost (.slice U0) ([]:List D0)≤p:=fun p hp=>by
    obtain ⟨p1,h1,h2⟩:=b5 (by omega)
    obtain ⟨p0,h3,h4⟩:=b3 (by omega)
    have:cost (.slice U0) ([]:List D0)=0:=rfl
    omega
  suffices h:∀ (d i j:Nat) (q:Int) (picks:List D0) (z1:Int) (z2:ByteArray) (z3 z4:Int),12-i≤d→d<j→i≤12→q≤(s.size:Int)→picks.length=i→(∀ p:Nat,q=(p:Int)→uri.size+cost (.slice U0) picks≤p) →
      (∀ a w,storedOk a=true→noCR w→s.data.toList=storedL a w→i≤a.2.1.length∧∃ p:Nat,q=(p:Int)∧p≤s.size∧picks=a.2.1.take i∧s.data.toList.drop p=(a.2.1.drop i).flatMap pickL++(ltext ⟨(respL a.2.2.1 w).toArray⟩++(varL a.2.2.2.1.toNat++varL a.2.2.2.2.toNat))) →
      ∃ r,iter (σ:=Int × Int × ByteArray × Int × ByteArray × Int × Int × List D0 × Unit) _ j (q,(i:Int),uri,z1,z2,z3,z4,picks,())=some r∧StR k s r from
    h 12 0 k q2 [] _ _ _ _ (by omega) (by omega) (by omega) b4 rfl hc0 (fun a w g1 g2 g3=>by
      obtain ⟨_,_,p,h1,h2,h3⟩:=ex0 a w g1 g2 g3
      exact ⟨Nat.zero_le _,p,h1,h2,rfl,h3⟩)
  intro d
  induction d with
  | zero =>
    intro i j q picks z1 z2 z3 z4 hd hj hi hq hpl hcost hex
    obtain ⟨j,rfl⟩:∃ m,j=m+1:=⟨j-1,by omega⟩
    have hi12:i=12:=by omega
    have fin:=finS_ok k hk s hs q hq uri picks hcost (fun a w g1 g2 g3=>by
      obtain ⟨s1,s2,s3,s4,s5,s6,s7⟩:=stored_parts g1
      obtain ⟨h0,p,h1,h2,h3,h4⟩:=hex a w g1 g2 g3
      refine ⟨p,h1,h2,(ex0 a w g1 g2 g3).1,by rw [h3,List.take_of_length_le (by omega)],?_⟩
      rw [h4,List.drop_eq_nil_of_le (by omega)];rfl)
    simp only [iter]
    cases decide ((i:Int)<n) with
    | true =>
      rw [cond_true,dF (show ¬ (i:Int)<12 by omega),cond_false]
      exact fin
    | false =>
      rw [cond_false]
      exact fin
  | succ d ih =>
    intro i j q picks z1 z2 z3 z4 hd hj hi hq hpl hcost hex
    obtain ⟨j,rfl⟩:∃ m,j=m+1:=⟨j-1,by omega⟩
    simp only [iter]
    cases hin:decide ((i:Int)<n) with
    | false =>
      rw [cond_false]
      exact finS_ok k hk s hs q hq uri picks hcost (fun a w g1 g2 g3=>by
        obtain ⟨h0,p,h1,h2,h3,h4⟩:=hex a w g1 g2 g3
        have hn:=(ex0 a w g1 g2 g3).2.1
        have:=of_decide_eq_false hin
        refine ⟨p,h1,h2,(ex0 a w g1 g2 g3).1,by rw [h3,List.take_of_length_le (by omega)],?_⟩
        rw [h4,List.drop_eq_nil_of_le (by omega)];rfl)
    | true =>
      have hin:=of_decide_eq_true hin
      rw [cond_true]
      by_cases h12:i<12
      case neg =>
        rw [dF (show ¬ (i:Int)<12 by omega),cond_false]
        exact finS_ok k hk s hs q hq uri picks hcost (fun a w g1 g2 g3=>by
          obtain ⟨s1,s2,s3,s4,s5,s6,s7⟩:=stored_parts g1
          have hn:=(ex0 a w g1 g2 g3).2.1
          omega)
      rw [dT (show (i:Int)<12 by omega),cond_true]
      have w1:12-(i+1)≤d:=by omega
      have w2:d<j:=by omega
      have w3:i+1≤12:=by omega
      have w4:picks.length+1<8589934592:=by omega
      have w5:wrap64 ((i:Int)+1)=(i:Int)+1:=w64 (by omega) (by omega)
      obtain ⟨⟨x,p1⟩,u1,u2⟩:=read_S k hk s hs q hq
      obtain ⟨v1,v2,v3⟩:=text_le u2
      dsimp only at v1 v2 v3
      obtain ⟨⟨y,p2⟩,u3,u4⟩:=read_S k hk s hs p1 v1
      obtain ⟨v4,v5,v6⟩:=text_le u4
      dsimp only at v4 v5 v6
      rw [u1,Option.bind_some]
      dsimp only
      rw [u3,Option.bind_some]
      dsimp only
      rw [dT (show picks.length+([(x,y)]:List D0).length<most from w4),cond_true,w5]
      clear w5
      have:=ih (i+1) j p2 (picks++[(x,y)]) z1 z2 z3 z4 w1 w2 w3 v4 (by rw [List.length_append,hpl];rfl) (fun p hp=>by
        have hp0:0≤p2:=by rw [hp];exact Int.natCast_nonneg p
        obtain ⟨m1,h1,h2⟩:=v6 hp0
        have hp1:0≤p1:=by rw [h1];exact Int.natCast_nonneg m1
        obtain ⟨m0,h3,h4⟩:=v3 hp1
        have:=hcost m0 h3
        clear v3 v6 b3 b5
        rw [cost_append,one_cost,field_cost]
        dsimp only
        omega) (fun a w g1 g2 g3=>by
        obtain ⟨h0,p,h1,h2,h3,h4⟩:=hex a w g1 g2 g3
        have hn:=(ex0 a w g1 g2 g3).2.1
        clear v3 v6 b3 b5
        have hlt:i<a.2.1.length:=by omega
        have hdr:a.2.1.drop i=a.2.1[i] :: a.2.1.drop (i+1):=List.drop_eq_getElem_cons hlt
        rw [hdr,List.flatMap_cons] at h4
        have h4':s.data.toList.drop p=ltext a.2.1[i].1++(ltext a.2.1[i].2++((a.2.1.drop (i+1)).flatMap pickL++(ltext ⟨(respL a.2.2.1 w).toArray⟩++(varL a.2.2.2.1.toNat++varL a.2.2.2.2.toNat)))):=by
          rw [h4];unfold pickL;simp only [List.append_assoc]
        have f1:=u2.2 p _ _ h1 h2 h4'
        have f1a:=congrArg Prod.fst f1
        have f1b:=congrArg Prod.snd f1
        dsimp only at f1a f1b
        have hl:=congrArg List.length h4'
        rw [List.length_drop,hlen,List.length_append,List.length_append] at hl
        have d1:s.data.toList.drop (p+(ltext a.2.1[i].1).length)=ltext a.2.1[i].2++((a.2.1.drop (i+1)).flatMap pickL++(ltext ⟨(respL a.2.2.1 w).toArray⟩++(varL a.2.2.2.1.toNat++varL a.2.2.2.2.toNat))):=by rw [← List.drop_drop,h4',List.drop_left]
        have f2:=u4.2 _ _ _ f1b (by omega) d1
        have f2a:=congrArg Prod.fst f2
        have f2b:=congrArg Prod.snd f2
        dsimp only at f2a f2b
        refine ⟨hlt,_,f2b,by omega,?_,?_⟩
        · rw [h3,f1a,f2a,List.take_succ_eq_append_getElem hlt]
        · rw [← List.drop_drop,d1,List.drop_left])
      exact this
end Go.Proofs.YtigbabjhcihmaaaGreatDoor.Fns
namespace Go.Proofs.YtigbabjhcihmaaaGreatDoor.Fns
open Go Go.RowKit Go.Proofs Go.Proofs.YtigbabjhcihmaaaGreatDoor.Ev Go.Proofs.YtigbabjhcihmaaaGreatDoor.Pl
set_option linter.unusedVariables false
set_option linter.unusedSimpArgs false
set_option maxRecDepth 100000
noncomputable def finI (k:Nat) (s:ByteArray) (p:D3) (uri:ByteArray) (picks:List D0):Option (D2 × Bool) :=
  (F61 k p).bind fun r11=>(F63 k r11.2).bind fun r12=>(F62 k r11.1 (2000000000:Int)).bind fun r13=>(F62 k r13.1 (2000000000:Int)).bind fun r14 =>
    (bif r14.1.2 then some (noSt,false) else (bif (!decide (r14.1.1=(ByteArray.mk #[]))) then some (noSt,false) else (bif (!decide (r12.2.2=(0:Int))) then some (noSt,false) else (bif (!decide (r12.2.1=(r11.2.size:Int))) then some (noSt,false) else
      ((F64 k (uri,picks,r12.1,r13.2,r14.2)).bind fun r15=>(bif (!decide (r15=s)) then some (noSt,false) else some ((uri,picks,r12.1,r13.2,r14.2),true)))))))
theorem finI_ok (k:Nat) (hk:fuel<k) (s:ByteArray) (hs:s.size≤big) (p:D3) (hp:p.1.size≤s.size) (uri:ByteArray) (picks:List D0) (hcost:p.2=false→uri.size+cost (.slice U0) picks+p.1.size≤s.size)
    (hex:∀ a w,storedOk a=true→noCR w→s.data.toList=storedL a w→p.2=false∧uri=a.1∧picks=a.2.1∧p.1.data.toList=ltext ⟨(respL a.2.2.1 w).toArray⟩++(varL a.2.2.2.1.toNat++varL a.2.2.2.2.toNat)) :
    ∃ r,finI k s p uri picks=some r∧StR k s r:=by
  have hs':s.size≤1048576:=hs
  have hlen:s.data.toList.length=s.size:=(size_data s).symm
  have e0:(ByteArray.mk #[]).size=0:=rfl
  unfold finI
  obtain ⟨⟨p1,t⟩,a1,a2,a2b,a2c⟩:=text_I k hk p (by show _≤1048576;omega)
  dsimp only at a2 a2b a2c
  obtain ⟨⟨rp,n0,c0⟩,a3,a4,a5⟩:=readR_I k hk t (by show _≤1048576;omega)
  dsimp only at a4
  obtain ⟨⟨p2,n1⟩,a6,a7,⟨m1,a7b,a7c⟩,a7d,a7e⟩:=num_I k hk p1 (by show _≤1048576;omega) 2000000000
  dsimp only at a7 a7b a7d a7e
  obtain ⟨⟨p3,n2⟩,a8,a9,⟨m2,a9b,a9c⟩,a9d,a9e⟩:=num_I k hk p2 (by show _≤1048576;omega) 2000000000
  dsimp only at a9 a9b a9d a9e
  have a6:F62 k p1 (2000000000:Int)=some (p2,n1):=a6
  have a8:F62 k p2 (2000000000:Int)=some (p3,n2):=a8
  rw [a1,Option.bind_some]
  dsimp only
  rw [a3,Option.bind_some,a6,Option.bind_some]
  dsimp only
  rw [a8,Option.bind_some]
  dsimp only
  have ex:∀ a w,storedOk a=true→noCR w→s.data.toList=storedL a w→uri=a.1∧picks=a.2.1∧rp=a.2.2.1∧n1=a.2.2.2.1∧n2=a.2.2.2.2∧p3=(ByteArray.mk #[],false)∧n0=(t.size:Int)∧c0=0:=by
    intro a w g1 g2 g3
    obtain ⟨s1,s2,s3,s4,s5,s6,s7⟩:=stored_parts g1
    obtain ⟨e0,e1,e2,e3⟩:=hex a w g1 g2 g3
    have f1:=a2c _ _ e0 e3
    have f1a:=congrArg Prod.fst f1
    have f1b:=congrArg Prod.snd f1
    dsimp only at f1a f1b
    have f2:=a5 a.2.2.1 w s2 g2 (by rw [f1b])
    have f2a:=congrArg Prod.fst f2
    have f2b:=congrArg (fun z=>z.2.1) f2
    have f2c:=congrArg (fun z=>z.2.2) f2
    dsimp only at f2a f2b f2c
    have f3:=a7e a.2.2.2.1.toNat (varL a.2.2.2.2.toNat) (by rw [f1a]) (by show _≤562949953421311;omega) (by omega) (by rw [f1a])
    have f3a:=congrArg Prod.fst f3
    have f3b:=congrArg Prod.snd f3
    dsimp only at f3a f3b
    have f4:=a9e a.2.2.2.2.toNat [] (by rw [f3a]) (by show _≤562949953421311;omega) (by omega) (by rw [f3a,List.append_nil])
    have f4a:=congrArg Prod.fst f4
    have f4b:=congrArg Prod.snd f4
    dsimp only at f4a f4b
    exact ⟨e1,e2,f2a,by omega,by omega,f4a,f2b,f2c⟩
  have shown:∀ a,storedOk a=true→cost U2 a≤big→F60 k a=some s→∃ w,noCR w∧s.data.toList=storedL a w:=fun a g1 g2 g3=>by
    obtain ⟨w,h1,h2⟩:=showS_val k hk a g1 g2
    rw [g3] at h2
    cases h2
    exact ⟨w,h1,rfl⟩
  cases hb:p3.2 with
  | true =>
    rw [cond_true]
    exact ⟨_,rfl,st_none k s fun a g1 g2 g3=>by
      obtain ⟨w,h1,h2⟩:=shown a g1 g2 g3
      have:=(ex a w g1 h1 h2).2.2.2.2.2.1
      rw [this] at hb;cases hb⟩
  | false =>
    rw [cond_false]
    cases hr:decide (p3.1=ByteArray.mk #[]) with
    | false =>
      rw [Bool.not_false,cond_true]
      exact ⟨_,rfl,st_none k s fun a g1 g2 g3=>by
        obtain ⟨w,h1,h2⟩:=shown a g1 g2 g3
        have:=(ex a w g1 h1 h2).2.2.2.2.2.1
        exact of_decide_eq_false hr (by rw [this])⟩
    | true =>
      rw [Bool.not_true,cond_false]
      cases hc:decide (c0=0) with
      | false =>
        rw [Bool.not_false,cond_true]
        exact ⟨_,rfl,st_none k s fun a g1 g2 g3=>by
          obtain ⟨w,h1,h2⟩:=shown a g1 g2 g3
          exact of_decide_eq_false hc (ex a w g1 h1 h2).2.2.2.2.2.2.2⟩
      | true =>
        rw [Bool.not_true,cond_false]
        cases hn:decide (n0=(t.size:Int)) with
        | false =>
          rw [Bool.not_false,cond_true]
          exact ⟨_,rfl,st_none k s fun a g1 g2 g3=>by
            obtain ⟨w,h1,h2⟩:=shown a g1 g2 g3
            exact of_decide_eq_false hn (ex a w g1 h1 h2).2.2.2.2.2.2.1⟩
        | true =>
          rw [Bool.not_true,cond_false]
          have b3:=a9d hb
          have b2:=a7d b3.1
          have b1:=a2b b2.1
          have hcc:=hcost b1.1
          have hx:cost U2 ((uri,picks,rp,n1,n2):D2)≤s.size:=by rw [stored_cost];dsimp only;omega
          obtain ⟨t',h1,h2,h3⟩:=showS_any k hk (uri,picks,rp,n1,n2) (by show _≤1048576;omega)
          rw [h2,Option.bind_some]
          cases hts:decide (t'=s) with
          | false =>
            rw [Bool.not_false,cond_true]
            exact ⟨_,rfl,st_none k s fun a g1 g2 g3=>by
              obtain ⟨w,w1,w2⟩:=shown a g1 g2 g3
              obtain ⟨e1,e2,e3,e4,e5,_⟩:=ex a w g1 w1 w2
              have:((uri,picks,rp,n1,n2):D2)=a:=by rw [e1,e2,e3,e4,e5]
              rw [this,g3] at h1
              cases h1
              exact of_decide_eq_false hts rfl⟩
          | true =>
            have hts:=of_decide_eq_true hts
            subst hts
            rw [Bool.not_true,cond_false]
            refine ⟨_,rfl,fun _=>⟨hx,?_,h1⟩,fun h=>(by cases h),fun a g1 g2 g3=>?_⟩
            · rcases h3 with h3 | h3
              · exfalso
                have:t'.size=0:=by rw [h3];rfl
                omega
              · exact h3.1
            · obtain ⟨w,w1,w2⟩:=shown a g1 g2 g3
              obtain ⟨e1,e2,e3,e4,e5,_⟩:=ex a w g1 w1 w2
              rw [e1,e2,e3,e4,e5]
theorem readSt_I (k:Nat) (hk:fuel<k) (s:ByteArray) (hs:s.size≤big):∃ r,F19 k s=some r∧StR k s r:=by
  have hk':2097152<k:=hk
  have hs':s.size≤1048576:=hs
  have hlen:s.data.toList.length=s.size:=(size_data s).symm
  unfold F19
  have hz:(Z3.2:Bool)=false:=rfl
  rw [hz]
  obtain ⟨⟨p1,uri⟩,a1,a2,a2b,a2c⟩:=text_I k hk (s,false) hs
  dsimp only at a2 a2b a2c
  obtain ⟨⟨p2,n⟩,a3,a4,⟨m,a4b,a4c⟩,a4d,a4e⟩:=num_I k hk p1 (by show _≤1048576;omega) 12
  dsimp only at a4 a4b a4d a4e
  have a3:F62 k p1 (12:Int)=some (p2,n):=a3
  rw [a1,Option.bind_some]
  dsimp only
  rw [a3,Option.bind_some]
  dsimp only
  subst a4b
  have ex0:∀ a w,storedOk a=true→noCR w→s.data.toList=storedL a w→uri=a.1∧m=a.2.1.length∧p2.2=false∧p2.1.data.toList=a.2.1.flatMap pickL++(ltext ⟨(respL a.2.2.1 w).toArray⟩++(varL a.2.2.2.1.toNat++varL a.2.2.2.2.toNat)):=by
    intro a w g1 g2 g3
    obtain ⟨s1,s2,s3,s4,s5,s6,s7⟩:=stored_parts g1
    have f1:=a2c a.1 (varL a.2.1.length++(a.2.1.flatMap pickL++(ltext ⟨(respL a.2.2.1 w).toArray⟩++(varL a.2.2.2.1.toNat++varL a.2.2.2.2.toNat)))) rfl (by rw [g3];rfl)
    have f1a:=congrArg Prod.fst f1
    have f1b:=congrArg Prod.snd f1
    dsimp only at f1a f1b
    have f3:=a4e a.2.1.length (a.2.1.flatMap pickL++(ltext ⟨(respL a.2.2.1 w).toArray⟩++(varL a.2.2.2.1.toNat++varL a.2.2.2.2.toNat))) (by rw [f1a]) (by show _≤562949953421311;omega) s7 (by rw [f1a])
    have f3a:=congrArg Prod.fst f3
    have f3b:=congrArg Prod.snd f3
    dsimp only at f3a f3b
    exact ⟨f1b,by omega,by rw [f3a],by rw [f3a]⟩
  suffices h:∀ (d i j:Nat) (rest:ByteArray) (bad:Bool) (picks:List D0) (z1:ByteArray) (z2:Int) (z3:ByteArray) (z4 z5:Int),m-i≤d→d<j→i≤m→rest.size≤s.size→picks.length=i→(bad=false→uri.size+cost (.slice U0) picks+rest.size≤s.size) →
      (∀ a w,storedOk a=true→noCR w→s.data.toList=storedL a w→bad=false∧picks=a.2.1.take i∧rest.data.toList=(a.2.1.drop i).flatMap pickL++(ltext ⟨(respL a.2.2.1 w).toArray⟩++(varL a.2.2.2.1.toNat++varL a.2.2.2.2.toNat))) →
      ∃ r,iter (σ:=Int × ByteArray × Bool × ByteArray × Int × ByteArray × Int × Int × List D0 × Unit) _ j ((i:Int),rest,bad,uri,z2,z3,z4,z5,picks,())=some r∧StR k s r from
    h m 0 k p2.1 p2.2 [] (ByteArray.mk #[]) _ _ _ _ (by omega) (by omega) (by omega) (by omega) rfl (fun hb=>by
      have b2:=a4d hb
      have b1:=a2b b2.1
      have:cost (.slice U0) ([]:List D0)=0:=rfl
      omega) (fun a w g1 g2 g3=>by
      obtain ⟨_,_,h1,h2⟩:=ex0 a w g1 g2 g3
      exact ⟨h1,rfl,h2⟩)
  intro d
  induction d with
  | zero =>
    intro i j rest bad picks z1 z2 z3 z4 z5 hd hj hi hq hpl hcost hex
    obtain ⟨j,rfl⟩:∃ m,j=m+1:=⟨j-1,by omega⟩
    simp only [iter]
    rw [dF (show ¬ (i:Int)<(m:Int) by omega),cond_false]
    exact finI_ok k hk s hs (rest,bad) hq uri picks hcost (fun a w g1 g2 g3=>by
      obtain ⟨h1,h3,h4⟩:=hex a w g1 g2 g3
      obtain ⟨h5,h6,_⟩:=ex0 a w g1 g2 g3
      refine ⟨h1,h5,by rw [h3,List.take_of_length_le (by omega)],?_⟩
      rw [h4,List.drop_eq_nil_of_le (by omega)];rfl)
  | succ d ih =>
    intro i j rest bad picks z1 z2 z3 z4 z5 hd hj hi hq hpl hcost hex
    obtain ⟨j,rfl⟩:∃ m,j=m+1:=⟨j-1,by omega⟩
    simp only [iter]
    by_cases him:i<m
    case neg =>
      rw [dF (show ¬ (i:Int)<(m:Int) by omega),cond_false]
      exact finI_ok k hk s hs (rest,bad) hq uri picks hcost (fun a w g1 g2 g3=>by
        obtain ⟨h1,h3,h4⟩:=hex a w g1 g2 g3
        obtain ⟨h5,h6,_⟩:=ex0 a w g1 g2 g3
        refine ⟨h1,h5,by rw [h3,List.take_of_length_le (by omega)],?_⟩
        rw [h4,List.drop_eq_nil_of_le (by omega)];rfl)
    rw [dT (show (i:Int)<(m:Int) by omega),cond_true]
    have w1:m-(i+1)≤d:=by omega
    have w2:d<j:=by omega
    have w3:i+1≤m:=by omega
    have w4:picks.length+1<8589934592:=by omega
    have w5:wrap64 ((i:Int)+1)=((i+1:Nat):Int):=w64 (by omega) (by omega)
    obtain ⟨⟨q1,x⟩,u1,u2,u2b,u2c⟩:=text_I k hk (rest,bad) (by show rest.size≤1048576;omega)
    dsimp only at u2 u2b u2c
    obtain ⟨⟨q2,y⟩,u3,u4,u4b,u4c⟩:=text_I k hk q1 (by show _≤1048576;omega)
    dsimp only at u4 u4b u4c
    rw [u1,Option.bind_some]
    dsimp only
    rw [u3,Option.bind_some]
    dsimp only
    rw [dT (show picks.length+([(x,y)]:List D0).length<most from w4),cond_true,w5]
    clear w5
    have:=ih (i+1) j q2.1 q2.2 (picks++[(x,y)]) z1 z2 z3 z4 z5 w1 w2 w3 (by omega) (by rw [List.length_append,hpl];rfl) (fun hb=>by
      have b2:=u4b hb
      have b1:=u2b b2.1
      have:=hcost b1.1
      rw [cost_append,one_cost,field_cost]
      dsimp only
      omega) (fun a w g1 g2 g3=>by
      obtain ⟨h1,h3,h4⟩:=hex a w g1 g2 g3
      have hn:=(ex0 a w g1 g2 g3).2.1
      have hlt:i<a.2.1.length:=by omega
      have hdr:a.2.1.drop i=a.2.1[i] :: a.2.1.drop (i+1):=List.drop_eq_getElem_cons hlt
      rw [hdr,List.flatMap_cons] at h4
      have h4':rest.data.toList=ltext a.2.1[i].1++(ltext a.2.1[i].2++((a.2.1.drop (i+1)).flatMap pickL++(ltext ⟨(respL a.2.2.1 w).toArray⟩++(varL a.2.2.2.1.toNat++varL a.2.2.2.2.toNat)))):=by
        rw [h4];unfold pickL;simp only [List.append_assoc]
      have f1:=u2c _ _ h1 h4'
      have f1a:=congrArg Prod.fst f1
      have f1b:=congrArg Prod.snd f1
      dsimp only at f1a f1b
      have f2:=u4c a.2.1[i].2 ((a.2.1.drop (i+1)).flatMap pickL++(ltext ⟨(respL a.2.2.1 w).toArray⟩++(varL a.2.2.2.1.toNat++varL a.2.2.2.2.toNat))) (by rw [f1a]) (by rw [f1a])
      have f2a:=congrArg Prod.fst f2
      have f2b:=congrArg Prod.snd f2
      dsimp only at f2a f2b
      refine ⟨by rw [f2a],?_,by rw [f2a]⟩
      rw [h3,f1b,f2b,List.take_succ_eq_append_getElem hlt])
    exact this
end Go.Proofs.YtigbabjhcihmaaaGreatDoor.Fns
