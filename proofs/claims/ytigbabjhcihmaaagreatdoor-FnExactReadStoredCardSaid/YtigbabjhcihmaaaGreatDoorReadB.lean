/- The three parts of a message's first line. -/
import Derived.Test.YtigbabjhcihmaaaGreatDoorReadA
import Derived.Test.YtigbabjhcihmaaaGreatDoorTxt
import Derived.Lib.AtoiAllCases
namespace Go.Proofs.YtigbabjhcihmaaaGreatDoor.Fns
open Go Go.RowKit Go.Proofs Go.Proofs.YtigbabjhcihmaaaGreatDoor.Ev Go.Proofs.YtigbabjhcihmaaaGreatDoor.Pl
set_option linter.unusedVariables false
set_option linter.unusedSimpArgs false
set_option maxRecDepth 100000
def Two (l:List UInt8) (i:Nat) (a b:Int):Prop :=
  (a = -1∧b = -1∧∀ j,j<i→l[j]? ≠ some 32) ∨
  (∃ x:Nat,a=(x:Int)∧b = -1∧x<i∧l[x]? = some 32∧∀ j,j<i→j≠x→l[j]? ≠ some 32) ∨
  (∃ x y:Nat,a=(x:Int)∧b=(y:Int)∧x<y∧y<i∧l[x]? = some 32∧l[y]? = some 32∧∀ j,j<y→j≠x→l[j]? ≠ some 32)
theorem two_step {l:List UInt8} {i:Nat} {a b:Int} (h:Two l i a b) {c:UInt8} (hc:l[i]? = some c) :
    (c=32→a<0→Two l (i+1) (i:Int) b)∧(c=32→¬ a<0→b<0→Two l (i+1) a (i:Int))∧((c≠32∨(¬ a<0∧¬ b<0))→Two l (i+1) a b):=by
  refine ⟨fun h1 h2=>?_,fun h1 h2 h3=>?_,fun h1=>?_⟩
  · subst h1
    rcases h with ⟨rfl,rfl,hno⟩ | ⟨x,rfl,_⟩ | ⟨x,y,rfl,_⟩
    · exact Or.inr (Or.inl ⟨i,rfl,rfl,by omega,hc,fun j hj hne=>hno j (by omega)⟩)
    · omega
    · omega
  · subst h1
    rcases h with ⟨rfl,rfl,hno⟩ | ⟨x,rfl,rfl,hx,hxl,hno⟩ | ⟨x,y,rfl,rfl,_⟩
    · omega
    · exact Or.inr (Or.inr ⟨x,i,rfl,rfl,hx,by omega,hxl,hc,fun j hj hne=>hno j hj hne⟩)
    · omega
  · rcases h with ⟨rfl,rfl,hno⟩ | ⟨x,rfl,rfl,hx,hxl,hno⟩ | ⟨x,y,rfl,rfl,hxy,hy,hxl,hyl,hno⟩
    · refine Or.inl ⟨rfl,rfl,fun j hj=>?_⟩
      rcases Nat.lt_or_ge j i with q | q
      · exact hno j q
      · have:j=i:=by omega
        subst this
        rw [hc]
        rcases h1 with h1 | ⟨h1,_⟩
        · exact fun e=>h1 (Option.some.inj e)
        · omega
    · refine Or.inr (Or.inl ⟨x,rfl,rfl,by omega,hxl,fun j hj hne=>?_⟩)
      rcases Nat.lt_or_ge j i with q | q
      · exact hno j q hne
      · have:j=i:=by omega
        subst this
        rw [hc]
        rcases h1 with h1 | ⟨_,h1⟩
        · exact fun e=>h1 (Option.some.inj e)
        · omega
    · exact Or.inr (Or.inr ⟨x,y,rfl,rfl,hxy,by omega,hxl,hyl,hno⟩)
def Words (s:ByteArray) (r:ByteArray × ByteArray × ByteArray):Prop :=
  r.2.1.size≤s.size∧∀ A B C,s.data.toList=A++32 :: (B++32 :: C)→(∀ x∈A,x≠32)→(∀ x∈B,x≠32)→r.1=⟨A.toArray⟩∧r.2.1=⟨B.toArray⟩
theorem two_end {s:ByteArray} {a b:Int} (h:Two s.data.toList s.size a b) {A B C:List UInt8} (hs:s.data.toList=A++32 :: (B++32 :: C)) (hA:∀ x∈A,x≠32) (hB:∀ x∈B,x≠32) :
    a=(A.length:Int)∧b=((A.length+1+B.length:Nat):Int):=by
  have hlen:s.data.toList.length=s.size:=(size_data s).symm
  have hl:s.size=A.length+(B.length+(C.length+1)+1):=by rw [← hlen,hs];simp
  have g1:s.data.toList[A.length]? = some 32:=by rw [hs,List.getElem?_append_right (Nat.le_refl _)];simp
  have g2:s.data.toList[A.length+1+B.length]? = some 32:=by
    rw [hs,List.getElem?_append_right (by omega),show A.length+1+B.length-A.length=B.length+1 by omega,List.getElem?_cons_succ,List.getElem?_append_right (Nat.le_refl _)];simp
  have nA:∀ j,j<A.length→s.data.toList[j]? ≠ some 32:=fun j hj e=>by
    rw [hs,List.getElem?_append_left hj] at e
    exact hA _ (List.mem_of_getElem? e) rfl
  have nB:∀ j,A.length<j→j<A.length+1+B.length→s.data.toList[j]? ≠ some 32:=fun j h1 h2 e=>by
    rw [hs,List.getElem?_append_right (by omega),show j-A.length=(j-A.length-1)+1 by omega,List.getElem?_cons_succ,List.getElem?_append_left (by omega)] at e
    exact hB _ (List.mem_of_getElem? e) rfl
  rcases h with ⟨rfl,rfl,hno⟩ | ⟨x,rfl,rfl,hx,hxl,hno⟩ | ⟨x,y,rfl,rfl,hxy,hy,hxl,hyl,hno⟩
  · exact absurd g1 (hno _ (by omega))
  · exfalso
    have h1:A.length=x:=by
      by_cases e:A.length=x
      · exact e
      · exact absurd g1 (hno _ (by omega) e)
    exact absurd g2 (hno _ (by omega) (by omega))
  · have hxA:x=A.length:=by
      rcases Nat.lt_trichotomy x A.length with q | q | q
      · exact absurd hxl (nA x q)
      · exact q
      · exact absurd g1 (hno A.length (by omega) (by omega))
    subst hxA
    refine ⟨rfl,?_⟩
    rcases Nat.lt_trichotomy y (A.length+1+B.length) with q | q | q
    · exact absurd hyl (nB y (by omega) q)
    · rw [q]
    · exact absurd g2 (hno _ q (by omega))
theorem words_S (k:Nat) (hk:fuel<k) (s:ByteArray) (hs:s.size≤big):∃ r,F142 k s=some r∧Words s r:=by
  have hk':2097152<k:=hk
  have hs':s.size≤1048576:=hs
  have hlen:s.data.toList.length=s.size:=(size_data s).symm
  unfold F142
  refine iter_count (fun i x=>Two s.data.toList i x.1 x.2.1∧x.2.2.1=(i:Int)) (Words s) s.size ?_ ?_ k 0 _ ⟨Or.inl ⟨rfl,rfl,fun j hj=>by omega⟩,rfl⟩ (Nat.zero_le _) (by omega)
  · rintro i ⟨a,b,xi,_⟩ rec ⟨hT,hxi⟩ hi hrec
    simp only at hT hxi
    subst hxi
    have hc:s.data.toList[i]? = some (s.data.toList[i]'(by omega)):=List.getElem?_eq_getElem (by omega)
    have hb:=bt_some hc
    simp only
    rw [dT (show (i:Int)<(s.size:Int) by omega),dT (show 0≤(i:Int)∧(i:Int)<(s.size:Int) by omega),hb,w64 (n:=(i:Int)+1) (by omega) (by omega)]
    simp only [cond_true]
    obtain ⟨t1,t2,t3⟩:=two_step hT hc
    generalize s.data.toList[i]'(by omega)=c at *
    have hc32:((c.toNat:Int)=32)↔c=32:=⟨fun e=>UInt8.toNat_inj.mp (by show _=32;omega),fun e=>by rw [e];rfl⟩
    by_cases h1:c=32
    · rw [dT (hc32.mpr h1)]
      simp only [cond_true]
      by_cases h2:a<0
      · rw [dT h2,cond_true]
        exact hrec _ ⟨t1 h1 h2,by simp only;omega⟩
      · rw [dF h2,cond_false]
        by_cases h3:b<0
        · rw [dT h3,cond_true]
          exact hrec _ ⟨t2 h1 h2 h3,by simp only;omega⟩
        · rw [dF h3,cond_false]
          exact hrec _ ⟨t3 (Or.inr ⟨h2,h3⟩),by simp only;omega⟩
    · rw [dF (fun e=>h1 (hc32.mp e))]
      simp only [cond_false]
      exact hrec _ ⟨t3 (Or.inl h1),by simp only;omega⟩
  · rintro ⟨a,b,xi,_⟩ rec ⟨hT,hxi⟩
    simp only at hT hxi
    subst hxi
    simp only
    rw [dF (show ¬ (s.size:Int)<(s.size:Int) by omega),cond_false]
    have ex:=fun A B C h1 h2 h3=>two_end (A:=A) (B:=B) (C:=C) hT h1 h2 h3
    rcases hT with ⟨rfl,rfl,hno⟩ | ⟨x,rfl,rfl,hx,hxl,hno⟩ | ⟨x,y,rfl,rfl,hxy,hy,hxl,hyl,hno⟩
    · refine ⟨_,rfl,Nat.zero_le _,fun A B C h1 h2 h3=>?_⟩
      have:=(ex A B C h1 h2 h3).1
      omega
    · refine ⟨_,rfl,Nat.zero_le _,fun A B C h1 h2 h3=>?_⟩
      have:=(ex A B C h1 h2 h3).2
      omega
    · rw [dF (show ¬ (y:Int)<0 by omega),cond_false,w64 (n:=(x:Int)+1) (by omega) (by omega),w64 (n:=(y:Int)+1) (by omega) (by omega),dT (show (0:Int)≤0∧(0:Int)≤(x:Int)∧(x:Int)≤(s.size:Int) by omega),dT (show 0≤(x:Int)+1∧(x:Int)+1≤(y:Int)∧(y:Int)≤(s.size:Int) by omega),dT (show 0≤(y:Int)+1∧(y:Int)+1≤(s.size:Int)∧(s.size:Int)≤(s.size:Int) by omega)]
      simp only [cond_true]
      have c1:((x:Int)+1).toNat=x+1:=by omega
      have z1:(0:Int).toNat=0:=rfl
      rw [c1,z1,Int.toNat_natCast,Int.toNat_natCast]
      refine ⟨_,rfl,?_,fun A B C h1 h2 h3=>?_⟩
      · simp only
        rw [size_data,extract_data,List.length_take,List.length_drop,hlen];omega
      · obtain ⟨e1,e2⟩:=ex A B C h1 h2 h3
        have hx:x=A.length:=by omega
        have hy:y=A.length+1+B.length:=by omega
        subst hx;subst hy
        refine ⟨bytes_ext ?_,bytes_ext ?_⟩
        · simp only
          rw [extract_data,h1];simp
        · simp only
          rw [extract_data,h1,show A.length+1+B.length-(A.length+1)=B.length by omega,← List.drop_drop,List.drop_left,List.drop_one,List.tail_cons,List.take_left]
theorem indexAny_lt (cs:List UInt8):∀ l:List UInt8,Lib.indexAny l cs = -1∨(0≤Lib.indexAny l cs∧Lib.indexAny l cs<(l.length:Int))
  | []=>Or.inl rfl
  | b :: l=>by
    unfold Lib.indexAny
    split
    · right;simp only [List.length_cons];omega
    · rcases indexAny_lt cs l with h | ⟨h1,h2⟩
      · rw [h];left;rfl
      · right
        have:(Lib.indexAny l cs == -1)=false:=by rw [beq_eq_false_iff_ne];omega
        rw [this]
        simp only [List.length_cons,Bool.false_eq_true,if_false]
        omega
theorem indexAny_one (A B:List UInt8) (h:∀ x∈A,x≠32∧x≠9):Lib.indexAny (A++32 :: B) [32,9]=(A.length:Int):=by
  refine Lib.indexAny_hit (i:=A.length) (x:=32) (fun j b hj hb=>?_) (by rw [List.getElem?_append_right (Nat.le_refl _)];simp) (by decide)
  rw [List.getElem?_append_left hj] at hb
  have:=h b (List.mem_of_getElem? hb)
  rw [List.contains_eq_any_beq]
  simp [this.1,this.2]
theorem any_val (s:ByteArray) (h:s.size≤big):semIndexAny2 s (ByteArray.mk #[32,9])=some (Lib.indexAny s.data.toList [32,9]):=by
  have h':s.size≤1048576:=h
  have hb:blankTab=ByteArray.mk #[32,9]:=rfl
  unfold semIndexAny2 semIndexAny
  rw [hb,dT (show (ByteArray.mk #[32,9])=(ByteArray.mk #[32,9]) from rfl),Bool.and_true]
  by_cases h8:s.size≤8
  · rw [dT h8];rfl
  · rw [dF h8,cond_false]
    have h2:(ByteArray.mk #[32,9]).size=2:=rfl
    rw [dT (show 8<s.size∧s.size<4294967281∧2≤(ByteArray.mk #[32,9]).size∧(ByteArray.mk #[32,9]).size<4294967281 by rw [h2];omega)]
    rfl
def Head (s:ByteArray) (r:List ByteArray × List D0 × ByteArray × Int):Prop :=
  (r.2.2.2=0→r.1.length=3)∧(∀ p∈r.1,p.size≤s.size)∧cost (.slice U0) r.2.1+r.2.2.1.size≤s.size∧(r.2.2.2=0∨r.2.2.2=1∨r.2.2.2=2) ∧
  ∀ A B C R (fs:List D0) (body:List UInt8),s.data.toList=(A++32 :: (B++32 :: C))++[13,10]++R→(∀ x∈A,x≠32∧x≠9∧x≠13)→(∀ x∈B,x≠32∧x≠9∧x≠13)→(∀ x∈C,x≠13) →
    Lib.contains s.data.toList [13,10,13,10]=true→readF fldOf fOk 13 R []=some (fs,body)→r.1.getD 0 (ByteArray.mk #[])=⟨A.toArray⟩∧r.1.getD 1 (ByteArray.mk #[])=⟨B.toArray⟩∧r.2.1=fs∧r.2.2.1=⟨body.toArray⟩∧r.2.2.2=0
theorem readF_suffix:∀ (n:Nat) (r:List UInt8) (acc l:List D0) (r':List UInt8),readF fldOf fOk n r acc=some (l,r')→r' <:+ r
  | 0,r,acc,l,r',h=>by simp [readF] at h
  | n+1,r,acc,l,r',h=>by
    unfold readF at h
    split at h
    · cases h
    split at h
    · cases h;exact List.drop_suffix _ _
    split at h
    · cases h
    split at h
    case isFalse=>cases h
    exact (readF_suffix n _ _ l r' h).trans (List.drop_suffix _ _)
end Go.Proofs.YtigbabjhcihmaaaGreatDoor.Fns
namespace Go.Proofs.YtigbabjhcihmaaaGreatDoor.Fns
open Go Go.RowKit Go.Proofs Go.Proofs.YtigbabjhcihmaaaGreatDoor.Ev Go.Proofs.YtigbabjhcihmaaaGreatDoor.Pl
set_option linter.unusedVariables false
set_option linter.unusedSimpArgs false
set_option maxRecDepth 100000
theorem fieldsAt_cases (s:ByteArray):(fieldsAt s=([],0,false)∧readF fldOf fOk 13 s.data.toList []=none)∨∃ l r,readF fldOf fOk 13 s.data.toList []=some (l,r)∧fieldsAt s=(l,((s.size-r.length:Nat):Int),true)∧r.length≤s.size∧s.data.toList.drop (s.size-r.length)=r ∧
    l.length≤12∧l.all fOk=true∧cost (.slice U0) l+r.length+2≤s.size:=by
  have hlen:s.data.toList.length=s.size:=(size_data s).symm
  unfold fieldsAt
  cases h:readF fldOf fOk 13 s.data.toList [] with
  | none=>exact Or.inl ⟨rfl,rfl⟩
  | some q =>
    obtain ⟨l,r⟩:=q
    obtain ⟨h1,h2,h3⟩:=readF_inv 13 _ _ l r h (by simp) rfl
    have hsuf:=readF_suffix 13 _ _ l r h
    have h0:cost (.slice U0) []=0:=rfl
    refine Or.inr ⟨l,r,rfl,rfl,by have:=hsuf.length_le;omega,?_,h1,h2,by omega⟩
    have:=List.suffix_iff_eq_drop.mp hsuf
    rw [hlen] at this
    exact this.symm
theorem contains_val (s t:ByteArray) (h:s.size≤big):semContains s t=some (Lib.contains s.data.toList t.data.toList):=by
  have h':s.size≤1048576:=h
  unfold semContains
  rw [dT (show s.size<4294967281 by omega)];rfl
theorem head_I (k:Nat) (hk:fuel<k) (s:ByteArray) (hs:s.size≤big):∃ r,F153 k s=some r∧Head s r:=by
  have hk':2097152<k:=hk
  have hs':s.size≤1048576:=hs
  have hlen:s.data.toList.length=s.size:=(size_data s).symm
  have e0:(ByteArray.mk #[]).size=0:=rfl
  have c0:cost (.slice U0) []=0:=rfl
  have hsep:(ByteArray.mk #[13,10]).data.toList=[13,10]:=rfl
  have hsep4:(ByteArray.mk #[13,10,13,10]).data.toList=[13,10,13,10]:=rfl
  unfold F153
  rw [contains_val s _ hs,hsep4,Option.bind_some]
  have bad:∀ c:Int,(c=1∨c=2)→(∀ A B C R (fs:List D0) (body:List UInt8),s.data.toList=(A++32 :: (B++32 :: C))++[13,10]++R→(∀ x∈A,x≠32∧x≠9∧x≠13)→(∀ x∈B,x≠32∧x≠9∧x≠13)→(∀ x∈C,x≠13) →
      Lib.contains s.data.toList [13,10,13,10]=true→readF fldOf fOk 13 R []=some (fs,body)→False)→Head s (([],[],ByteArray.mk #[],c):List ByteArray × List D0 × ByteArray × Int):=by
    intro c hc hno
    refine ⟨fun h=>?_,(fun p hp=>by cases hp),(by simp only [c0,e0];omega),Or.inr hc,fun A B C R fs body h1 h2 h3 h4 h5 h6=>(hno A B C R fs body h1 h2 h3 h4 h5 h6).elim⟩
    simp only at h
    omega
  cases hct:Lib.contains s.data.toList [13,10,13,10] with
  | false =>
    rw [hct] at bad
    simp only [Bool.not_false,cond_true]
    cases decide ((1500:Int)<(s.size:Int)) with
    | true=>exact ⟨_,rfl,bad 2 (Or.inr rfl) fun _ _ _ _ _ _ _ _ _ _ h=>by cases h⟩
    | false=>exact ⟨_,rfl,bad 1 (Or.inl rfl) fun _ _ _ _ _ _ _ _ _ _ h=>by cases h⟩
  | true =>
    simp only [Bool.not_true,cond_false]
    rw [cut_val s _ hs,hsep,Option.bind_some]
    obtain ⟨L,R,b,hcut,hL,hR,hex⟩:∃ (L R:ByteArray) (b:Bool),(if Lib.index s.data.toList [13,10]<0 then (s,ByteArray.mk #[],false) else ((⟨(s.data.toList.take (Lib.index s.data.toList [13,10]).toNat).toArray⟩:ByteArray),(⟨(s.data.toList.drop ((Lib.index s.data.toList [13,10]).toNat+([13,10]:List UInt8).length)).toArray⟩:ByteArray),true))=(L,R,b)∧L.size≤s.size∧R.size≤s.size ∧
        ∀ A T,s.data.toList=A++[13,10]++T→(∀ x∈A,x≠13)→L=⟨A.toArray⟩∧R=⟨T.toArray⟩:=by
      by_cases h0:Lib.index s.data.toList [13,10]<0
      · rw [if_pos h0]
        refine ⟨_,_,_,rfl,Nat.le_refl _,Nat.zero_le _,fun A T h1 h2=>?_⟩
        have:=index_one 13 [10] T A h2
        rw [← h1] at this
        omega
      · rw [if_neg h0]
        refine ⟨_,_,_,rfl,by rw [mk_size,List.length_take];omega,by rw [mk_size,List.length_drop];omega,fun A T h1 h2=>?_⟩
        have:=index_one 13 [10] T A h2
        rw [← h1] at this
        rw [this,Int.toNat_natCast]
        refine ⟨by rw [h1,List.append_assoc,List.take_left],?_⟩
        rw [h1]
        have:A.length+([13,10]:List UInt8).length=(A++[13,10]).length:=by rw [List.length_append]
        rw [this,List.drop_left]
    rw [hcut]
    simp only
    obtain ⟨k,rfl⟩:∃ m,k=m+3:=⟨k-3,by omega⟩
    simp only [iter]
    have z1:(0:Int).toNat=0:=rfl
    have lineE:∀ A B C T (fs:List D0) (body:List UInt8),s.data.toList=(A++32 :: (B++32 :: C))++[13,10]++T→(∀ x∈A,x≠32∧x≠9∧x≠13)→(∀ x∈B,x≠32∧x≠9∧x≠13)→(∀ x∈C,x≠13)→L=⟨(A++32 :: (B++32 :: C)).toArray⟩∧R=⟨T.toArray⟩:=by
      intro A B C T fs body h1 h2 h3 h4
      refine hex _ _ h1 fun x hx=>?_
      rcases List.mem_append.mp hx with q | q
      · exact (h2 x q).2.2
      rcases List.mem_cons.mp q with q | q
      · subst q;decide
      rcases List.mem_append.mp q with q | q
      · exact (h3 x q).2.2
      rcases List.mem_cons.mp q with q | q
      · subst q;decide
      · exact h4 x q
    rw [dT (show (0:Int)<2 by decide),cond_true,any_val L (by show _≤1048576;omega),Option.bind_some]
    have idxE:∀ A B C T (fs:List D0) (body:List UInt8),s.data.toList=(A++32 :: (B++32 :: C))++[13,10]++T→(∀ x∈A,x≠32∧x≠9∧x≠13)→(∀ x∈B,x≠32∧x≠9∧x≠13)→(∀ x∈C,x≠13)→Lib.indexAny L.data.toList [32,9]=(A.length:Int):=by
      intro A B C T fs body h1 h2 h3 h4
      rw [(lineE A B C T fs body h1 h2 h3 h4).1]
      exact indexAny_one A (B++32 :: C) fun x hx=>⟨(h2 x hx).1,(h2 x hx).2.1⟩
    rcases indexAny_lt [32,9] L.data.toList with hi | ⟨hi0,hi1⟩
    · rw [hi,dT (show (-1:Int)<0 by decide),cond_true]
      refine ⟨_,rfl,bad 2 (Or.inr rfl) fun A B C T fs body h1 h2 h3 h4 h5 h6=>?_⟩
      have:=idxE A B C T fs body h1 h2 h3 h4
      omega
    rw [← size_data] at hi1
    obtain ⟨i,hi⟩:∃ i:Nat,Lib.indexAny L.data.toList [32,9]=i:=⟨(Lib.indexAny L.data.toList [32,9]).toNat,by omega⟩
    rw [hi] at hi0 hi1 ⊢
    have c1:((i:Int)+1).toNat=i+1:=by omega
    rw [dF (show ¬ (i:Int)<0 by omega),cond_false,w64 (n:=(i:Int)+1) (by omega) (by omega),dT (show (0:Int)≤0∧(0:Int)≤(i:Int)∧(i:Int)≤(L.size:Int) by omega),dT (show 0≤(i:Int)+1∧(i:Int)+1≤(L.size:Int)∧(L.size:Int)≤(L.size:Int) by omega),z1,c1,Int.toNat_natCast,Int.toNat_natCast]
    have m1:∀ x:ByteArray,decide (([]:List ByteArray).length+([x]:List ByteArray).length<most)=true:=fun x=>dT (by show 0+1<8589934592;omega)
    rw [m1]
    simp only [cond_true,List.nil_append]
    rw [w64 (n:=(0:Int)+1) (by omega) (by omega),dT (show (0:Int)+1<2 by decide),cond_true]
    generalize hL2:L.extract (i+1) L.size=L2
    have hL2s:L2.size=L.size-(i+1):=by rw [← hL2,tail_size]
    have hP0:(L.extract 0 i).size≤s.size:=by rw [size_data,extract_data,List.length_take,List.length_drop,← size_data];omega
    rw [any_val L2 (by show _≤1048576;omega),Option.bind_some]
    have L2E:∀ A B C T (fs:List D0) (body:List UInt8),s.data.toList=(A++32 :: (B++32 :: C))++[13,10]++T→(∀ x∈A,x≠32∧x≠9∧x≠13)→(∀ x∈B,x≠32∧x≠9∧x≠13)→(∀ x∈C,x≠13)→L2=⟨(B++32 :: C).toArray⟩∧L.extract 0 i=⟨A.toArray⟩∧Lib.indexAny L2.data.toList [32,9]=(B.length:Int):=by
      intro A B C T fs body h1 h2 h3 h4
      have q1:=(lineE A B C T fs body h1 h2 h3 h4).1
      have q2:=idxE A B C T fs body h1 h2 h3 h4
      have hiA:i=A.length:=by omega
      have e1:L2=⟨(B++32 :: C).toArray⟩:=by
        rw [← hL2]
        apply bytes_ext
        rw [tail_data,q1,hiA]
        simp only
        rw [← List.drop_drop,List.drop_left,List.drop_one,List.tail_cons]
      refine ⟨e1,?_,?_⟩
      · apply bytes_ext
        rw [extract_data,q1,hiA];simp
      · rw [e1]
        exact indexAny_one B C fun x hx=>⟨(h3 x hx).1,(h3 x hx).2.1⟩
    rcases indexAny_lt [32,9] L2.data.toList with hj | ⟨hj0,hj1⟩
    · rw [hj,dT (show (-1:Int)<0 by decide),cond_true]
      refine ⟨_,rfl,bad 2 (Or.inr rfl) fun A B C T fs body h1 h2 h3 h4 h5 h6=>?_⟩
      have:=(L2E A B C T fs body h1 h2 h3 h4).2.2
      omega
    rw [← size_data] at hj1
    obtain ⟨j,hj⟩:∃ j:Nat,Lib.indexAny L2.data.toList [32,9]=j:=⟨(Lib.indexAny L2.data.toList [32,9]).toNat,by omega⟩
    rw [hj] at hj0 hj1 ⊢
    have d1:((j:Int)+1).toNat=j+1:=by omega
    rw [dF (show ¬ (j:Int)<0 by omega),cond_false,w64 (n:=(j:Int)+1) (by omega) (by omega),dT (show (0:Int)≤0∧(0:Int)≤(j:Int)∧(j:Int)≤(L2.size:Int) by omega),dT (show 0≤(j:Int)+1∧(j:Int)+1≤(L2.size:Int)∧(L2.size:Int)≤(L2.size:Int) by omega),d1,Int.toNat_natCast,Int.toNat_natCast]
    have m2:∀ x y:ByteArray,decide (([x]:List ByteArray).length+([y]:List ByteArray).length<most)=true:=fun x y=>dT (by show 1+1<8589934592;omega)
    rw [m2]
    simp only [cond_true,List.cons_append,List.nil_append]
    rw [w64 (n:=(0:Int)+1+1) (by omega) (by omega),dF (show ¬ (0:Int)+1+1<2 by decide),cond_false]
    have hP1:(L2.extract 0 j).size≤s.size:=by rw [size_data,extract_data,List.length_take,List.length_drop,← size_data];omega
    have hP2:(L2.extract (j+1) L2.size).size≤s.size:=by rw [tail_size];omega
    rw [readFields_I _ hk R (by show _≤1048576;omega),Option.bind_some]
    rcases fieldsAt_cases R with ⟨hf,hn⟩ | ⟨l,r,hr,hf,hrl,hrd,g1,g2,g3⟩
    · rw [hf]
      simp only [Bool.not_false,cond_true]
      refine ⟨_,rfl,bad 2 (Or.inr rfl) fun A B C T fs body h1 h2 h3 h4 h5 h6=>?_⟩
      rw [(lineE A B C T fs body h1 h2 h3 h4).2] at hn
      have hn:readF fldOf fOk 13 T []=none:=hn
      rw [hn] at h6;cases h6
    · rw [hf]
      simp only [Bool.not_true,cond_false]
      rw [dT (show 0≤((R.size-r.length:Nat):Int)∧((R.size-r.length:Nat):Int)≤(R.size:Int)∧(R.size:Int)≤(R.size:Int) by omega),Int.toNat_natCast,Int.toNat_natCast]
      have m3:∀ x y z:ByteArray,decide (([x,y]:List ByteArray).length+([z]:List ByteArray).length<most)=true:=fun x y z=>dT (by show 2+1<8589934592;omega)
      rw [m3]
      simp only [cond_true]
      have hbody:R.extract (R.size-r.length) R.size=⟨r.toArray⟩:=bytes_ext (by rw [tail_data,hrd])
      refine ⟨_,rfl,fun _=>rfl,fun p hp=>?_,?_,Or.inl rfl,fun A B C T fs body h1 h2 h3 h4 h5 h6=>?_⟩
      · simp only [List.cons_append,List.nil_append,List.mem_cons,List.not_mem_nil,or_false] at hp
        rcases hp with rfl | rfl | rfl
        · exact hP0
        · exact hP1
        · exact hP2
      · simp only
        rw [tail_size]
        omega
      · have q1:=(lineE A B C T fs body h1 h2 h3 h4).2
        obtain ⟨q2,q3,q4⟩:=L2E A B C T fs body h1 h2 h3 h4
        have hjB:j=B.length:=by omega
        rw [q1] at hr
        have hr:readF fldOf fOk 13 T []=some (l,r):=hr
        rw [h6] at hr
        cases hr
        refine ⟨q3,?_,rfl,hbody,rfl⟩
        show L2.extract 0 j=_
        apply bytes_ext
        rw [extract_data,q2,hjB];simp
end Go.Proofs.YtigbabjhcihmaaaGreatDoor.Fns
namespace Go.Proofs.YtigbabjhcihmaaaGreatDoor.Fns
open Go Go.RowKit Go.Proofs Go.Proofs.YtigbabjhcihmaaaGreatDoor.Ev Go.Proofs.YtigbabjhcihmaaaGreatDoor.Pl
set_option linter.unusedVariables false
set_option linter.unusedSimpArgs false
set_option maxRecDepth 100000
theorem parse_append:∀ (xs ys:List UInt8) (acc a:Nat),Lib.parseUint10 acc xs = .ok a→Lib.parseUint10 acc (xs++ys)=Lib.parseUint10 a ys
  | [],ys,acc,a,h=>by simp only [Lib.parseUint10] at h;injection h with h;subst h;rfl
  | c :: r,ys,acc,a,h=>by
    simp only [Lib.parseUint10,List.cons_append] at h ⊢
    split at h
    · next h1 =>
      rw [if_pos h1]
      split at h
      · cases h
      · next h2 =>
        rw [if_neg h2]
        split at h
        · cases h
        · next h3=>rw [if_neg h3];exact parse_append r ys _ _ h
    · cases h
theorem digit_byte (d:Nat) (h:d<10):(UInt8.ofNat (48+d)).toNat=48+d:=by
  rw [UInt8.toNat_ofNat'];omega
theorem parse_digits (u:Nat) (h:u<18446744073709551616):Lib.parseUint10 0 (Lib.decDigits u) = .ok u:=by
  induction u using Nat.strongRecOn with
  | _ u ih =>
    by_cases h1:u<10
    · rw [Lib.decDigits,dif_pos h1]
      simp only [Lib.parseUint10,digit_byte u h1]
      rw [if_pos (by omega),if_neg (by omega),if_neg (by omega)]
      congr 1;omega
    · rw [Lib.decDigits,dif_neg h1,parse_append _ _ _ _ (ih (u / 10) (by omega) (by omega))]
      simp only [Lib.parseUint10,digit_byte (u % 10) (Nat.mod_lt _ (by decide))]
      rw [if_pos (by omega),if_neg (by omega),if_neg (by omega)]
      congr 1;omega
theorem digits_ne (u:Nat):Lib.decDigits u≠[]:=by
  intro h
  have:=Lib.decDigits_length u
  have:=Lib.nDigits_pos u
  rw [h] at *
  simp at *
  omega
theorem digits_all (u:Nat):∀ b∈Lib.decDigits u,48≤b.toNat∧b.toNat≤57:=by
  induction u using Nat.strongRecOn with
  | _ u ih =>
    by_cases h1:u<10
    · rw [Lib.decDigits,dif_pos h1]
      intro b hb
      simp only [List.mem_singleton] at hb
      subst hb
      rw [digit_byte u h1];omega
    · rw [Lib.decDigits,dif_neg h1]
      intro b hb
      rcases List.mem_append.mp hb with hb | hb
      · exact ih _ (by omega) b hb
      · simp only [List.mem_singleton] at hb
        subst hb
        rw [digit_byte (u % 10) (Nat.mod_lt _ (by decide))];omega
theorem atoi_itoa (n:Int) (h0:-9223372036854775808≤n) (h1:n≤9223372036854775807):Lib.atoiAll (Lib.itoa n) = .ok n:=by
  unfold Lib.itoa
  split
  · next hn =>
    rw [Lib.atoiAll]
    simp only [show (45:UInt8).toNat=45 from rfl,or_true,if_true,Lib.parseMag,if_neg (digits_ne _),parse_digits n.natAbs (by omega)]
    rw [if_neg (by simp),if_neg (by omega)]
    congr 1;omega
  · next hn =>
    cases hd:Lib.decDigits n.toNat with
    | nil=>exact absurd hd (digits_ne _)
    | cons c r =>
      have hc:=digits_all n.toNat c (by rw [hd];simp)
      rw [Lib.atoiAll]
      rw [if_neg (by omega),← hd]
      simp only [Lib.parseMag,if_neg (digits_ne _),parse_digits n.toNat (by omega)]
      rw [if_neg (by omega),if_neg (by omega),if_neg (by omega)]
      congr 1;omega
theorem readI_ok (k:Nat) (s:ByteArray) (n:Int) (h0:-999999999≤n) (h1:n≤999999999) (h:s.data.toList=Lib.itoa n) (hs:s.size≤281474976710656):F154 k s=some (n,true):=by
  have ha:semAtoi s=some (n,false):=by
    unfold semAtoi
    rw [dT (show s.size≤281474976710656 by omega),h,atoi_itoa n (by omega) (by omega)]
    rfl
  have hd:F239 k n=some s:=by
    unfold F239
    rw [itoa_eq n (by omega) (by omega),← h]
    cases s;rfl
  unfold F154 F176
  rw [ha]
  simp only [Option.bind_some,hd,decide_true,Bool.not_true,Bool.not_false,cond_false,dT h0,dT h1,cond_true]
theorem readI_no (k:Nat) (s:ByteArray) (hs:s.size≤281474976710656) (hno:∀ n:Int,-999999999≤n→n≤999999999→s.data.toList≠Lib.itoa n):F154 k s=some (0,false):=by
  unfold F154
  unfold semAtoi
  rw [dT (show s.size≤281474976710656 by omega),cond_true]
  cases h:Lib.atoiAll s.data.toList with
  | ok v =>
    obtain ⟨b0,b1⟩:=Lib.atoiAll_bounds h
    simp only [Option.bind_some,Bool.not_false,Bool.not_true,cond_false]
    unfold F239
    rw [itoa_eq v b0 b1]
    simp only [Option.bind_some]
    by_cases he:(⟨(Lib.itoa v).toArray⟩:ByteArray)=s
    · rw [dT he]
      simp only [Bool.not_true,cond_false]
      unfold F176
      by_cases h0:-999999999≤v
      · rw [dT h0]
        by_cases h1:v≤999999999
        · exact absurd (by rw [← he]) (hno v h0 h1)
        · rw [dF h1];rfl
      · rw [dF h0];rfl
    · rw [dF he];rfl
  | range=>rfl
  | _=>rfl
def dstep (x:Nat × Nat) (b:UInt8):Nat × Nat:=if 48≤b.toNat∧b.toNat≤57 then (x.1*10+(b.toNat-48),x.2+1) else x
theorem dstep_lt:∀ (l:List UInt8),(l.foldl dstep (0,0)).1<10 ^ (l.foldl dstep (0,0)).2∧(l.foldl dstep (0,0)).2≤l.length:=by
  intro l
  suffices h:∀ (l:List UInt8) (x:Nat × Nat),x.1<10 ^ x.2→(l.foldl dstep x).1<10 ^ (l.foldl dstep x).2∧(l.foldl dstep x).2≤x.2+l.length by
    have:=h l (0,0) (by decide)
    simpa using this
  intro l
  induction l with
  | nil=>intro x hx;exact ⟨hx,by simp⟩
  | cons b l ih =>
    intro x hx
    rw [List.foldl_cons]
    have h1:(dstep x b).1<10 ^ (dstep x b).2∧(dstep x b).2≤x.2+1:=by
      unfold dstep
      split
      · simp only [Nat.pow_succ];omega
      · exact ⟨hx,by omega⟩
    obtain ⟨h2,h3⟩:=ih _ h1.1
    exact ⟨h2,by rw [List.length_cons];omega⟩
theorem dstep_digits (u:Nat):(Lib.decDigits u).foldl dstep (0,0)=(u,Lib.nDigits u):=by
  induction u using Nat.strongRecOn with
  | _ u ih =>
    by_cases h1:u<10
    · rw [Lib.decDigits,dif_pos h1,Lib.nDigits_small h1]
      simp only [List.foldl_cons,List.foldl_nil,dstep,digit_byte u h1]
      rw [if_pos (by omega)]
      simp
    · rw [Lib.decDigits,dif_neg h1,List.foldl_append,ih (u / 10) (by omega),Lib.nDigits_big h1]
      simp only [List.foldl_cons,List.foldl_nil,dstep,digit_byte (u % 10) (Nat.mod_lt _ (by decide))]
      rw [if_pos (by omega)]
      simp;omega
theorem dstep_itoa (n:Int):(Lib.itoa n).foldl dstep (0,0)=(n.natAbs,Lib.nDigits n.natAbs):=by
  unfold Lib.itoa
  split
  · rw [List.foldl_cons,show dstep (0,0) 45=(0,0) from rfl,dstep_digits]
  · next h=>rw [dstep_digits,show n.toNat=n.natAbs by omega]
theorem bt_get (s:ByteArray) (i:Nat) (h:i<s.data.toList.length):bt s (i:Int)=((s.data.toList[i]).toNat:Int):=by
  unfold bt
  rw [stuckOn_eq,Int.toNat_natCast]
  have h':i<s.data.size:=by simpa using h
  show ((s.data[i]!).toNat:Int)=_
  rw [getElem!_pos s.data i h']
  simp
def dend (k:Nat) (s:ByteArray) (n c:Int):Option (Int × Bool) :=
  bif decide ((9:Int)<c) then some ((0:Int),false) else bif decide ((10:Int)<(s.size:Int)) then some ((0:Int),false) else (F221 k n).bind fun r=>bif !decide (r=s) then some ((0:Int),false) else some (n,true)
def dfin (k:Nat) (s:ByteArray) (n c:Int):Option (Int × Bool) :=
  bif decide ((0:Int)<(s.size:Int)) then (bif decide (0≤(0:Int)∧(0:Int)<(s.size:Int)) then (bif decide (bt s (0:Int)=(45:Int)) then dend k s (wrap64 (-n)) c else dend k s n c) else none) else dend k s n c
theorem readS_eq (k:Nat) (hk:fuel<k) (s:ByteArray):F143 k s=dfin k s ((s.data.toList.take 11).foldl dstep (0,0)).1 ((s.data.toList.take 11).foldl dstep (0,0)).2:=by
  have hk':2097152<k:=hk
  have hsz:s.size=s.data.toList.length:=size_data s
  have hr:F143 k s=iter (σ:=Int × Int × Int × Unit) (fun rec4 x3=>(bif (decide (x3.2.2.1<(s.size:Int))) then (bif (decide (x3.2.2.1<(11:Int))) then (bif (decide (0≤x3.2.2.1∧x3.2.2.1<(s.size:Int))) then (bif (decide ((48:Int)≤(bt s x3.2.2.1))) then (bif (decide (0≤x3.2.2.1∧x3.2.2.1<(s.size:Int))) then (bif (decide ((bt s x3.2.2.1)≤(57:Int))) then (bif (decide (0≤x3.2.2.1∧x3.2.2.1<(s.size:Int))) then (rec4 ((wrap64 ((wrap64 (x3.1*(10:Int)))+(wrap64 ((wr .u8 ((bt s x3.2.2.1)-(48:Int))))))),(wrap64 (x3.2.1+(1:Int))),(wrap64 (x3.2.2.1+(1:Int))),())) else none) else (rec4 (x3.1,x3.2.1,(wrap64 (x3.2.2.1+(1:Int))),()))) else none) else (rec4 (x3.1,x3.2.1,(wrap64 (x3.2.2.1+(1:Int))),()))) else none) else dfin k s x3.1 x3.2.1) else dfin k s x3.1 x3.2.1)) k ((0:Int),(0:Int),(0:Int),()):=rfl
  rw [hr]
  refine iter_any (fun i x=>x.1=(((s.data.toList.take i).foldl dstep (0,0)).1:Int)∧x.2.1=(((s.data.toList.take i).foldl dstep (0,0)).2:Int)∧x.2.2.1=(i:Int)) _ (min s.data.toList.length 11) ?_ ?_ k 0 _ ⟨by simp,by simp,rfl⟩ (Nat.zero_le _) (by omega)
  · rintro i ⟨xn,xc,xi,_⟩ rec ⟨h1,h2,h3⟩ hi hrec
    simp only at h1 h2 h3
    subst h1;subst h2;subst h3
    have hil:i<s.data.toList.length:=by omega
    have e1:decide ((i:Int)<(s.size:Int))=true:=dT (by omega)
    have e2:decide ((i:Int)<11)=true:=dT (by omega)
    have e3:decide (0≤(i:Int)∧(i:Int)<(s.size:Int))=true:=dT (by omega)
    have hb:=bt_get s i hil
    obtain ⟨b1,b2⟩:=dstep_lt (s.data.toList.take i)
    have hlen:(s.data.toList.take i).length=i:=by rw [List.length_take];omega
    rw [hlen] at b2
    have hst:(s.data.toList.take (i+1)).foldl dstep (0,0)=dstep ((s.data.toList.take i).foldl dstep (0,0)) s.data.toList[i]:=by
      rw [List.take_add_one,List.getElem?_eq_getElem hil,Option.toList_some,List.foldl_append];rfl
    have hp:10 ^ ((s.data.toList.take i).foldl dstep (0,0)).2≤100000000000:=Nat.le_trans (Nat.pow_le_pow_right (by decide) (show _≤11 by omega)) (by decide)
    have hw:wrap64 ((i:Int)+1)=((i+1:Nat):Int):=by rw [w64 (by omega) (by omega)];simp
    generalize (s.data.toList.take i).foldl dstep (0,0)=x at *
    have hbyte:=(s.data.toList[i]).toNat_lt
    generalize hbg:s.data.toList[i]=b at *
    simp only [e1,e2,e3,cond_true,hb,hw]
    by_cases g1:48≤b.toNat
    · by_cases g2:b.toNat≤57
      · have q1:wr .u8 ((b.toNat:Int)-48)=((b.toNat-48:Nat):Int):=by
          have:((b.toNat:Int)-48)=((b.toNat-48:Nat):Int):=by omega
          rw [this]
          have h10:b.toNat-48<10:=by omega
          revert h10
          generalize b.toNat-48=d
          intro h10
          have:∀ d:Fin 10,wr .u8 ((d.val:Nat):Int)=(d.val:Int):=by decide +kernel
          exact this ⟨d,h10⟩
        rw [dT (show (48:Int)≤(b.toNat:Int) by omega),dT (show (b.toNat:Int)≤57 by omega),q1]
        simp only [cond_true]
        rw [w64 (n:=((x.1:Nat):Int)*10) (by omega) (by omega),w64 (n:=((b.toNat-48:Nat):Int)) (by omega) (by omega),w64 (by omega) (by omega),w64 (n:=((x.2:Nat):Int)+1) (by omega) (by omega)]
        refine hrec _ ⟨?_,?_,rfl⟩
        · rw [hst];unfold dstep;rw [if_pos ⟨g1,g2⟩];simp
        · rw [hst];unfold dstep;rw [if_pos ⟨g1,g2⟩];simp
      · rw [dT (show (48:Int)≤(b.toNat:Int) by omega),dF (show ¬ (b.toNat:Int)≤57 by omega)]
        simp only [cond_true,cond_false]
        refine hrec _ ⟨?_,?_,rfl⟩
        · rw [hst];unfold dstep;rw [if_neg (by omega)]
        · rw [hst];unfold dstep;rw [if_neg (by omega)]
    · rw [dF (show ¬ (48:Int)≤(b.toNat:Int) by omega)]
      simp only [cond_false]
      refine hrec _ ⟨?_,?_,rfl⟩
      · rw [hst];unfold dstep;rw [if_neg (by omega)]
      · rw [hst];unfold dstep;rw [if_neg (by omega)]
  · rintro ⟨xn,xc,xi,_⟩ rec ⟨h1,h2,h3⟩
    simp only at h1 h2 h3
    have ht:s.data.toList.take (min s.data.toList.length 11)=s.data.toList.take 11:=by
      rw [Nat.min_comm];exact List.take_eq_take_min.symm
    rw [ht] at h1 h2
    subst h1;subst h2;subst h3
    simp only
    by_cases hc:s.data.toList.length≤11
    · rw [dF (show ¬ ((min s.data.toList.length 11:Nat):Int)<(s.size:Int) by omega)];rfl
    · rw [dT (show ((min s.data.toList.length 11:Nat):Int)<(s.size:Int) by omega),dF (show ¬ ((min s.data.toList.length 11:Nat):Int)<11 by omega)];rfl
theorem readS_ok (k:Nat) (hk:fuel<k) (s:ByteArray) (n:Int) (h0:-999999999≤n) (h1:n≤999999999) (h:s.data.toList=Lib.itoa n):F143 k s=some (n,true):=by
  have hsz:s.size=s.data.toList.length:=size_data s
  have hd9:Lib.nDigits n.natAbs≤9:=by
    by_cases hz:Lib.nDigits n.natAbs≤9
    · exact hz
    · exfalso
      have:∀ u:Nat,u<1000000000→Lib.nDigits u≤9:=by
        intro u hu
        have h9:∀ (c u:Nat),u<10 ^ (c+1)→Lib.nDigits u≤c+1:=by
          intro c
          induction c with
          | zero=>intro u hu;rw [Lib.nDigits_small (by simpa using hu)];omega
          | succ c ih =>
            intro u hu
            by_cases hs:u<10
            · rw [Lib.nDigits_small hs];omega
            · rw [Lib.nDigits_big hs]
              have:=ih (u / 10) (by rw [Nat.pow_succ] at hu;omega)
              omega
        exact h9 8 u (by omega)
      exact hz (this _ (by omega))
  have hlen:s.data.toList.length≤10:=by
    rw [h];unfold Lib.itoa
    split
    · rw [List.length_cons,Lib.decDigits_length];omega
    · next hn=>rw [Lib.decDigits_length,show n.toNat=n.natAbs by omega];omega
  have hpos:0<s.data.toList.length:=by
    rw [h];unfold Lib.itoa
    split
    · simp
    · exact List.length_pos_iff.mpr (digits_ne _)
  rw [readS_eq k hk,List.take_of_length_le (by omega),h,dstep_itoa]
  have hfirst:bt s 0=45↔n<0:=by
    have hb:=bt_get s 0 hpos
    rw [show ((0:Nat):Int)=0 from rfl] at hb
    rw [hb]
    have hg:s.data.toList[0]=(Lib.itoa n)[0]'(by rw [← h];exact hpos):=by simp only [h]
    rw [hg]
    unfold Lib.itoa
    constructor
    · intro e
      by_cases hn:n<0
      · exact hn
      · simp only [if_neg hn] at e
        have:=digits_all n.toNat _ (List.getElem_mem (by
          have:=Lib.decDigits_length n.toNat
          have:=Lib.nDigits_pos n.toNat
          omega:0<(Lib.decDigits n.toNat).length))
        omega
    · intro hn
      simp only [if_pos hn,List.getElem_cons_zero]
      rfl
  have hdec:F221 k n=some s:=by
    rw [dec_eq k hk n (by omega) (by omega),← h]
  have hend:dend k s n (Lib.nDigits n.natAbs:Int)=some (n,true):=by
    unfold dend
    rw [dF (show ¬ (9:Int)<(Lib.nDigits n.natAbs:Int) by omega),dF (show ¬ (10:Int)<(s.size:Int) by omega),hdec]
    simp only [cond_false,Option.bind_some,decide_true,Bool.not_true]
  unfold dfin
  rw [dT (show (0:Int)<(s.size:Int) by omega),dT (show 0≤(0:Int)∧(0:Int)<(s.size:Int) by omega)]
  simp only [cond_true]
  by_cases hn:n<0
  · rw [dT (hfirst.mpr hn),cond_true,show wrap64 (-((n.natAbs:Nat):Int))=n by rw [w64 (by omega) (by omega)];omega]
    exact hend
  · rw [dF (fun e=>hn (hfirst.mp e)),cond_false,show ((n.natAbs:Nat):Int)=n by omega]
    exact hend
theorem readS_no (k:Nat) (hk:fuel<k) (s:ByteArray) (hno:∀ n:Int,-999999999≤n→n≤999999999→s.data.toList≠Lib.itoa n):F143 k s=some (0,false):=by
  rw [readS_eq k hk]
  obtain ⟨b1,b2⟩:=dstep_lt (s.data.toList.take 11)
  have hl:(s.data.toList.take 11).length≤11:=by rw [List.length_take];omega
  generalize (s.data.toList.take 11).foldl dstep (0,0)=x at *
  have hend:∀ n:Int,n.natAbs=x.1→dend k s n x.2=some (0,false):=by
    intro n hn
    unfold dend
    by_cases hc:(9:Int)<(x.2:Int)
    · rw [dT hc];rfl
    · rw [dF hc]
      by_cases hz:(10:Int)<(s.size:Int)
      · rw [dT hz];rfl
      · have hp:10 ^ x.2≤1000000000:=Nat.le_trans (Nat.pow_le_pow_right (by decide) (show x.2≤9 by omega)) (by decide)
        rw [dF hz,dec_eq k hk n (by omega) (by omega)]
        simp only [cond_false,Option.bind_some]
        rw [dF (fun e=>hno n (by omega) (by omega) (by rw [← e]))]
        rfl
  have hp:10 ^ x.2≤100000000000:=Nat.le_trans (Nat.pow_le_pow_right (by decide) (show x.2≤11 by omega)) (by decide)
  unfold dfin
  cases h0:decide ((0:Int)<(s.size:Int)) with
  | false=>exact hend _ (by omega)
  | true =>
    have h0':=of_decide_eq_true h0
    rw [dT (show 0≤(0:Int)∧(0:Int)<(s.size:Int) by omega)]
    simp only [cond_true]
    cases decide (bt s (0:Int)=(45:Int)) with
    | true=>exact hend _ (by rw [w64 (by omega) (by omega)];omega)
    | false=>exact hend _ (by omega)
theorem read_same (k:Nat) (hk:fuel<k) (s:ByteArray) (hs:s.size≤281474976710656):∃ r,F143 k s=some r∧F154 k s=some r∧(r.2=true → -999999999≤r.1∧r.1≤999999999):=by
  by_cases h:∃ n:Int,-999999999≤n∧n≤999999999∧s.data.toList=Lib.itoa n
  · obtain ⟨n,h0,h1,hn⟩:=h
    exact ⟨(n,true),readS_ok k hk s n h0 h1 hn,readI_ok k s n h0 h1 hn hs,fun _=>⟨h0,h1⟩⟩
  · have hno:∀ n:Int,-999999999≤n→n≤999999999→s.data.toList≠Lib.itoa n:=fun n h0 h1 e=>h ⟨n,h0,h1,e⟩
    exact ⟨(0,false),readS_no k hk s hno,readI_no k s hs hno,fun q=>by cases q⟩
end Go.Proofs.YtigbabjhcihmaaaGreatDoor.Fns
namespace Go.Proofs.YtigbabjhcihmaaaGreatDoor.Fns
open Go Go.RowKit Go.Proofs Go.Proofs.YtigbabjhcihmaaaGreatDoor.Ev Go.Proofs.YtigbabjhcihmaaaGreatDoor.Pl
set_option linter.unusedVariables false
set_option linter.unusedSimpArgs false
set_option maxRecDepth 100000
def dtext (n:Int):ByteArray:=⟨(Lib.itoa n).toArray⟩
theorem dtext_eq (k:Nat) (hk:fuel<k) (n:Int) (h:-9223372036854775808≤n∧n≤9223372036854775807):F221 k n=some (dtext n)∧F239 k n=some (dtext n)∧(dtext n).size≤21:=by
  refine ⟨dec_eq k hk n h.1 h.2,?_,itoa_len n h.1 h.2⟩
  unfold F239
  rw [itoa_eq n h.1 h.2];rfl
end Go.Proofs.YtigbabjhcihmaaaGreatDoor.Fns
namespace Go.Proofs.YtigbabjhcihmaaaGreatDoor.Fns
open Go Go.RowKit Go.Proofs Go.Proofs.YtigbabjhcihmaaaGreatDoor.Ev Go.Proofs.YtigbabjhcihmaaaGreatDoor.Pl
set_option linter.unusedVariables false
set_option linter.unusedSimpArgs false
set_option maxRecDepth 100000
def fieldL (f:D0):List UInt8:=f.1.data.toList++58 :: ((32 :: f.2.data.toList)++[13,10])
theorem fieldLine_data (f:D0):(fieldLine f).data.toList=fieldL f:=by
  unfold fieldLine fieldL
  simp only [append_data]
  simp
theorem foldl_data {α:Type} (g:α→ByteArray):∀ (l:List α) (x:ByteArray),(l.foldl (fun x a=>x++g a) x).data.toList=x.data.toList++l.flatMap fun a=>(g a).data.toList
  | [],x=>by simp
  | a :: l,x=>by rw [List.foldl_cons,foldl_data g l,append_data,List.flatMap_cons,List.append_assoc]
theorem showF_val (k:Nat) (hk:fuel<k) (l:List D0) (hok:fieldsOk l=true) (hc:cost (.slice U0) l≤fuel):F233 k l=some ⟨(l.flatMap fieldL++[13,10]).toArray⟩:=by
  have hlen:l.length≤cost (.slice U0) l:=cost_len (e:=U0) l
  have hk':2097152<k:=hk
  have hc':cost (.slice U0) l≤2097152:=hc
  have hcc:cost (.slice U0) l=l.length+(l.map (cost U0)).sum:=rfl
  unfold F233
  rw [fieldsOk_S k hk l hc,hok]
  simp only [Option.bind_some,Bool.not_true,cond_false]
  have hsum:(l.map fun f=>(fieldLine f).size).sum≤4*l.length+(l.map (cost U0)).sum:=sum_cost (e:=U0) (fun f=>(fieldLine f).size) 4 l (fun f _=>by simp only [line_size];omega)
  have hcap:(ByteArray.mk #[58,32]).size=2:=rfl
  have hcap2:(ByteArray.mk #[13,10]).size=2:=rfl
  have hM:(ByteArray.mk #[]).size+(l.map fun f=>(fieldLine f).size).sum≤1099511627776:=by
    have:(ByteArray.mk #[]).size=0:=rfl
    omega
  have hfin:(l.foldl (fun x f=>x++fieldLine f) (ByteArray.mk #[])).size≤1099511627776:=by rw [foldl_size];exact hM
  have:(⟨(l.flatMap fieldL++[13,10]).toArray⟩:ByteArray)=l.foldl (fun x f=>x++fieldLine f) (ByteArray.mk #[])++(ByteArray.mk #[13,10]):=by
    apply bytes_ext
    rw [append_data,foldl_data]
    simp only [fieldLine_data]
    simp
  rw [this]
  refine (iter_text l fieldLine 1099511627776 (fun x=>some (x++(ByteArray.mk #[13,10]))) (fun i hi x rec hx=>?_) (fun x rec hx=>?_) k _ hM (by omega))
  · have e:=line_size l[i]
    rw [field_cost] at e
    simp only [Int.toNat_natCast]
    rw [dT (show (i:Int)<(l.length:Int) by omega),dT (show 0≤(i:Int)∧(i:Int)<(l.length:Int) by omega),w64 (n:=(i:Int)+1) (by omega) (by omega)]
    simp only [cond_true,getD_lt hi]
    rw [fits (by omega),fits (by simp only [ByteArray.size_append,hcap];omega),fits (by simp only [ByteArray.size_append,hcap];omega),fits (by simp only [ByteArray.size_append,hcap,hcap2];omega)]
    simp only [cond_true]
    unfold fieldLine
    simp only [ba_assoc,Int.natCast_add,Int.cast_ofNat_Int]
  · simp only
    rw [dF (show ¬ (l.length:Int)<(l.length:Int) by omega),cond_false,fits (by rw [hcap2];omega)]
    rfl
def framedF (a:D1):List D0:=if bare a.1 then a.2.1 else a.2.1++[(nCL,dtext (a.2.2.size:Int))]
def noCR (s:ByteArray):Prop:=∀ x∈s.data.toList,x≠13
theorem reason_val (k:Nat) (hk:fuel<k) (a:Int):∃ w,F232 k a=some w∧noCR w∧w.size≤40:=by
  obtain ⟨w,h1,h2,h3⟩:=reason_same k hk a
  refine ⟨w,h1,?_,h3⟩
  have key:∀ w':ByteArray,(w'.data.toList.all fun x=>x != 13)=true→some w'=some w→noCR w:=fun w' hw e x hx=>by
    cases e
    have:=List.all_eq_true.mp hw x hx
    simpa using this
  unfold F247 at h2
  cases h200:decide (a=200) with
  | true=>rw [h200,cond_true] at h2;exact key _ (by decide) h2
  | false =>
  rw [h200,cond_false] at h2
  cases h203:decide (a=203) with
  | true=>rw [h203,cond_true] at h2;exact key _ (by decide) h2
  | false =>
  rw [h203,cond_false] at h2
  cases h204:decide (a=204) with
  | true=>rw [h204,cond_true] at h2;exact key _ (by decide) h2
  | false =>
  rw [h204,cond_false] at h2
  cases h300:decide (a=300) with
  | true=>rw [h300,cond_true] at h2;exact key _ (by decide) h2
  | false =>
  rw [h300,cond_false] at h2
  cases h301:decide (a=301) with
  | true=>rw [h301,cond_true] at h2;exact key _ (by decide) h2
  | false =>
  rw [h301,cond_false] at h2
  cases h304:decide (a=304) with
  | true=>rw [h304,cond_true] at h2;exact key _ (by decide) h2
  | false =>
  rw [h304,cond_false] at h2
  cases h400:decide (a=400) with
  | true=>rw [h400,cond_true] at h2;exact key _ (by decide) h2
  | false =>
  rw [h400,cond_false] at h2
  cases h404:decide (a=404) with
  | true=>rw [h404,cond_true] at h2;exact key _ (by decide) h2
  | false =>
  rw [h404,cond_false] at h2
  cases h410:decide (a=410) with
  | true=>rw [h410,cond_true] at h2;exact key _ (by decide) h2
  | false =>
  rw [h410,cond_false] at h2
  cases h502:decide (a=502) with
  | true=>rw [h502,cond_true] at h2;exact key _ (by decide) h2
  | false =>
  rw [h502,cond_false] at h2
  cases h504:decide (a=504) with
  | true=>rw [h504,cond_true] at h2;exact key _ (by decide) h2
  | false =>
  rw [h504,cond_false] at h2
  exact key _ (by decide) h2
def respL (a:D1) (w:ByteArray):List UInt8 :=
  [72,84,84,80,47,49,46,49,32]++Lib.itoa a.1++32 :: w.data.toList++[13,10]++((framedF a).flatMap fieldL++[13,10])++a.2.2.data.toList
theorem resp_parts {a:D1} (h:respOk a=true):200≤a.1∧a.1≤599∧plainF a.2.1=true∧a.2.2.size≤60∧(bare a.1=true→a.2.2=ByteArray.mk #[]):=by
  unfold respOk at h
  simp only [Bool.and_eq_true,decide_eq_true_eq] at h
  refine ⟨h.1.1.1.1,h.1.1.1.2,h.1.1.2,by omega,fun hb=>?_⟩
  have:=h.2
  rw [hb] at this
  simpa using this
theorem plain_ok {l:List D0} (h:plainF l=true):fieldsOk l=true∧l.length<12∧hasN nTE l=false∧hasN nCL l=false:=by
  have h2:=plain_len h
  unfold plainF at h
  simp only [Bool.and_eq_true,Bool.not_eq_true'] at h
  exact ⟨h.2,h2,h.1.1.1,h.1.1.2⟩
theorem dtext_tok (n:Nat) (h:n≤60):isValue (dtext (n:Int))=true∧(dtext (n:Int)).size≤2:=by
  have key:∀ d:Fin 61,isValue (dtext (d.val:Int))=true∧(dtext (d.val:Int)).size≤2:=by decide +kernel
  exact key ⟨n,by omega⟩
theorem nCL_ok:isTok nCL=true∧nCL=lower nCL∧nCL.size=14:=⟨by kernel_rfl,by kernel_rfl,rfl⟩
theorem cl_ok (n:Nat) (h:n≤60):fOk (nCL,dtext (n:Int))=true:=by
  obtain ⟨h1,h2⟩:=dtext_tok n h
  obtain ⟨g1,g2,g3⟩:=nCL_ok
  unfold fOk
  simp only [g1,h1,Bool.true_and,Bool.and_true]
  rw [decide_eq_true g2,decide_eq_true (show ((nCL.size:Int)≤24) by rw [g3];decide),decide_eq_true (show ((dtext (n:Int)).size:Int)≤60 by omega)]
  rfl
theorem framed_ok {a:D1} (h:respOk a=true):fieldsOk (framedF a)=true∧(framedF a).length≤12∧cost (.slice U0) (framedF a)≤cost (.slice U0) a.2.1+40:=by
  obtain ⟨h1,h2,h3,h4,h5⟩:=resp_parts h
  obtain ⟨p1,p2,p3,p4⟩:=plain_ok h3
  unfold framedF
  split
  · exact ⟨p1,by omega,by omega⟩
  · have hc:=cl_ok a.2.2.size h4
    have hd:=(dtext_tok a.2.2.size h4).2
    refine ⟨?_,by rw [List.length_append];simp;omega,?_⟩
    · unfold fieldsOk at p1 ⊢
      rw [Bool.and_eq_true] at p1 ⊢
      refine ⟨?_,by rw [decide_eq_true_eq,List.length_append];simp;omega⟩
      rw [List.all_append,p1.1]
      simpa using hc
    · rw [cost_append,one_cost,field_cost]
      have:=nCL_ok.2.2
      simp only [this]
      omega
theorem showR_val (k:Nat) (hk:fuel<k) (a:D1) (hr:respOk a=true) (hc:cost U1 a≤big):∃ w,noCR w∧w.size≤40∧F151 k a=some ⟨(respL a w).toArray⟩:=by
  have h:=resp_cost (a:=a)
  have hc':cost U1 a≤1048576:=hc
  obtain ⟨h1,h2,h3,h4,h5⟩:=resp_parts hr
  obtain ⟨p1,p2,p3,p4⟩:=plain_ok h3
  obtain ⟨r1,r2,r3⟩:=dtext_eq k hk a.1 ⟨by omega,by omega⟩
  obtain ⟨q,a2,hn,s2⟩:=reason_val k hk a.1
  obtain ⟨d1,d2,d3⟩:=dtext_eq k hk (a.2.2.size:Int) ⟨by omega,by omega⟩
  obtain ⟨f1,f2,f3⟩:=framed_ok hr
  refine ⟨q,hn,s2,?_⟩
  unfold F151
  rw [resp_S k hk a hc,hr]
  simp only [Option.bind_some,Bool.not_true,cond_false]
  have hfr:F231 k a.2.1 a.2.2=some (a.2.1++[(nCL,dtext (a.2.2.size:Int))]):=by
    unfold F231
    have hl:=plain_len h3
    rw [drop_S k hk a.2.1 _ (by omega)]
    simp only [Option.bind_some]
    rw [drop_id p3,drop_S k hk a.2.1 _ (by omega)]
    simp only [Option.bind_some]
    rw [drop_id p4,d1]
    simp only [Option.bind_some]
    have hm:decide (a.2.1.length+([(nCL,dtext (a.2.2.size:Int))]:List D0).length<most)=true:=dT (by show a.2.1.length+1<8589934592;omega)
    exact (congrArg (fun b=>cond b _ _) hm).trans rfl
  have hcf:∀ l:List D0,fieldsOk l=true→cost (.slice U0) l≤cost (.slice U0) a.2.1+40→F233 k l=some ⟨(l.flatMap fieldL++[13,10]).toArray⟩:=fun l hl hle=>showF_val k hk l hl (by show _≤2097152;omega)
  have hsz:∀ l:List D0,F233 k l=some ⟨(l.flatMap fieldL++[13,10]).toArray⟩→cost (.slice U0) l≤cost (.slice U0) a.2.1+40→(ByteArray.mk (l.flatMap fieldL++[13,10]).toArray).size≤11534336:=fun l hl hle=>by
    obtain ⟨w,w1,w2,w3⟩:=showF_same k hk l (by show _≤2097152;omega)
    rw [hl] at w1
    cases w1
    omega
  have h9:(ByteArray.mk #[72,84,84,80,47,49,46,49,32]).size=9:=rfl
  have h32:(ByteArray.mk #[32]).size=1:=rfl
  have hcr:(ByteArray.mk #[13,10]).size=2:=rfl
  have t1:decide ((ByteArray.mk #[72,84,84,80,47,49,46,49,32]).size+(dtext a.1).size<mostText)=true:=fits (by omega)
  have t2:decide (((ByteArray.mk #[72,84,84,80,47,49,46,49,32])++(dtext a.1)).size+(ByteArray.mk #[32]).size<mostText)=true:=fits (by simp only [ByteArray.size_append];omega)
  have t3:decide ((((ByteArray.mk #[72,84,84,80,47,49,46,49,32])++(dtext a.1))++(ByteArray.mk #[32])).size+q.size<mostText)=true:=fits (by simp only [ByteArray.size_append];omega)
  have t4:decide (((((ByteArray.mk #[72,84,84,80,47,49,46,49,32])++(dtext a.1))++(ByteArray.mk #[32]))++q).size+(ByteArray.mk #[13,10]).size<mostText)=true:=fits (by simp only [ByteArray.size_append];omega)
  have t5:∀ x:ByteArray,x.size≤11534336→decide ((((((ByteArray.mk #[72,84,84,80,47,49,46,49,32])++(dtext a.1))++(ByteArray.mk #[32]))++q)++(ByteArray.mk #[13,10])).size+x.size<mostText)=true:=fun x hx=>fits (by simp only [ByteArray.size_append];omega)
  have t6:∀ x:ByteArray,x.size≤11534336→decide (((((((ByteArray.mk #[72,84,84,80,47,49,46,49,32])++(dtext a.1))++(ByteArray.mk #[32]))++q)++(ByteArray.mk #[13,10]))++x).size+a.2.2.size<mostText)=true:=fun x hx=>fits (by simp only [ByteArray.size_append];omega)
  have fin:∀ l:List D0,framedF a=l→(((((((ByteArray.mk #[72,84,84,80,47,49,46,49,32])++(dtext a.1))++(ByteArray.mk #[32]))++q)++(ByteArray.mk #[13,10]))++(ByteArray.mk (l.flatMap fieldL++[13,10]).toArray))++a.2.2)=⟨(respL a q).toArray⟩:=fun l hl=>by
    apply bytes_ext
    unfold respL
    rw [hl]
    simp only [append_data]
    unfold dtext
    simp
  rw [hfr,r1,a2]
  simp only [Option.bind_some]
  have hb:bare a.1=(decide (a.1=204)||decide (a.1=304)):=rfl
  have plainCase:bare a.1=true→F233 k a.2.1=some ⟨(a.2.1.flatMap fieldL++[13,10]).toArray⟩:=fun hb=>hcf _ p1 (by omega)
  have fullCase:bare a.1=false→F233 k (a.2.1++[(nCL,dtext (a.2.2.size:Int))])=some ⟨((a.2.1++[(nCL,dtext (a.2.2.size:Int))]).flatMap fieldL++[13,10]).toArray⟩∧framedF a=a.2.1++[(nCL,dtext (a.2.2.size:Int))]:=fun hb=>by
    have hff:framedF a=a.2.1++[(nCL,dtext (a.2.2.size:Int))]:=by unfold framedF;rw [if_neg (by rw [hb];decide)]
    rw [hff] at f1 f3
    exact ⟨hcf _ f1 f3,hff⟩
  cases hbb:bare a.1 with
  | true =>
    have hff:framedF a=a.2.1:=by unfold framedF;rw [if_pos hbb]
    have e1:=plainCase hbb
    have e2:=hsz _ e1 (by omega)
    rw [hb] at hbb
    rw [e1]
    simp only [Option.bind_some]
    rw [t1,t2,t3,t4,t5 _ e2,t6 _ e2,fin _ hff]
    cases h204:decide (a.1=204) with
    | true=>rfl
    | false =>
      rw [h204,Bool.false_or] at hbb
      rw [hbb];rfl
  | false =>
    obtain ⟨e1,hff⟩:=fullCase hbb
    have e2:=hsz _ e1 (by rw [← hff];omega)
    rw [hb] at hbb
    rw [Bool.or_eq_false_iff] at hbb
    rw [hbb.1,hbb.2,e1]
    simp only [Option.bind_some,Bool.not_false,cond_true,cond_false]
    rw [t1,t2,t3,t4,t5 _ e2,t6 _ e2,fin _ hff]
    rfl
end Go.Proofs.YtigbabjhcihmaaaGreatDoor.Fns
namespace Go.Proofs.YtigbabjhcihmaaaGreatDoor.Fns
open Go Go.RowKit Go.Proofs Go.Proofs.YtigbabjhcihmaaaGreatDoor.Ev Go.Proofs.YtigbabjhcihmaaaGreatDoor.Pl
set_option linter.unusedVariables false
set_option linter.unusedSimpArgs false
set_option maxRecDepth 100000
theorem byte_lt {s:ByteArray} {i:Nat} (h:i<s.size):∃ b:UInt8,bt s (i:Int)=(b.toNat:Int)∧b.toNat<256:=by
  have hlen:s.data.toList.length=s.size:=(size_data s).symm
  exact ⟨_,bt_some (List.getElem?_eq_getElem (l:=s.data.toList) (i:=i) (by omega)),UInt8.toNat_lt _⟩
theorem wr_byte {n m:Nat} (h:m≤n) (h2:n<256):wr .u8 ((n:Int)-(m:Int))=((n-m:Nat):Int):=by
  have:(n:Int)-(m:Int)=((n-m:Nat):Int):=by omega
  rw [this,wr_u8 (by omega)]
def SecR (r:Int × Bool):Prop:=0≤r.1∧r.1≤2147483648
theorem sec_S (k:Nat) (hk:fuel<k) (s:ByteArray) (hs:s.size≤2097152):∃ r,F229 k s=some r∧SecR r:=by
  have hk':2097152<k:=hk
  unfold F229
  refine iter_count (fun i x=>x.2.1=(i:Int)∧0≤x.1∧x.1≤2147483648) SecR s.size ?_ ?_ k 0 _ ⟨rfl,by decide,by decide⟩ (Nat.zero_le _) (by omega)
  · rintro i ⟨n,xi,_⟩ rec ⟨hxi,h0,h1⟩ hi hrec
    simp only at hxi h0 h1
    subst hxi
    obtain ⟨b,hb,hb2⟩:=byte_lt hi
    simp only
    rw [dT (show (i:Int)<(s.size:Int) by omega),dT (show 0≤(i:Int)∧(i:Int)<(s.size:Int) by omega),hb,w64 (n:=(i:Int)+1) (by omega) (by omega)]
    simp only [cond_true]
    by_cases c1:b.toNat<48
    · rw [dT (show (b.toNat:Int)<48 by omega)]
      exact ⟨_,rfl,by decide,by decide⟩
    rw [dF (show ¬ (b.toNat:Int)<48 by omega),cond_false]
    by_cases c2:57<b.toNat
    · rw [dT (show (57:Int)<(b.toNat:Int) by omega)]
      exact ⟨_,rfl,by decide,by decide⟩
    rw [dF (show ¬ (57:Int)<(b.toNat:Int) by omega),cond_false]
    have hw:wr .u8 ((b.toNat:Int)-48)=((b.toNat-48:Nat):Int):=wr_byte (m:=48) (by omega) hb2
    rw [hw,w64 (n:=((b.toNat-48:Nat):Int)) (by omega) (by omega),w64 (n:=n*10) (by omega) (by omega),w64 (by omega) (by omega)]
    refine hrec _ ⟨by simp only;omega,?_,?_⟩
    · simp only;split <;> omega
    · simp only;split <;> omega
  · rintro ⟨n,xi,_⟩ rec ⟨hxi,h0,h1⟩
    simp only at hxi h0 h1
    subst hxi
    simp only
    rw [dF (show ¬ (s.size:Int)<(s.size:Int) by omega),cond_false]
    exact ⟨_,rfl,h0,h1⟩
theorem sec_S_small (k:Nat) (hk:fuel<k) (n:Nat) (h:n≤60):F229 k (dtext (n:Int))=some ((n:Int),true):=by
  have hk':2097152<k:=hk
  obtain ⟨k,rfl⟩:∃ m,k=m+3:=⟨k-3,by omega⟩
  clear hk hk'
  have:n=0∨n=1∨n=2∨n=3∨n=4∨n=5∨n=6∨n=7∨n=8∨n=9∨n=10∨n=11∨n=12∨n=13∨n=14∨n=15∨n=16∨n=17∨n=18∨n=19∨n=20∨n=21∨n=22∨n=23∨n=24∨n=25∨n=26∨n=27∨n=28∨n=29∨n=30∨n=31∨n=32∨n=33∨n=34∨n=35∨n=36∨n=37∨n=38∨n=39∨n=40∨n=41∨n=42∨n=43∨n=44∨n=45∨n=46∨n=47∨n=48∨n=49∨n=50∨n=51∨n=52∨n=53∨n=54∨n=55∨n=56∨n=57∨n=58∨n=59∨n=60:=by omega
  rcases this with rfl | rfl | rfl | rfl | rfl | rfl | rfl | rfl | rfl | rfl | rfl | rfl | rfl | rfl | rfl | rfl | rfl | rfl | rfl | rfl | rfl | rfl | rfl | rfl | rfl | rfl | rfl | rfl | rfl | rfl | rfl | rfl | rfl | rfl | rfl | rfl | rfl | rfl | rfl | rfl | rfl | rfl | rfl | rfl | rfl | rfl | rfl | rfl | rfl | rfl | rfl | rfl | rfl | rfl | rfl | rfl | rfl | rfl | rfl | rfl | rfl
  all_goals
    show F229 (k+3) _=_
    kernel_rfl
theorem atoi_zero (r:List UInt8):∃ v e,(match Lib.atoiAll (48 :: r) with
    | .ok v=>some (v,false)
    | .range=>some (Lib.atoiSat (48 :: r),true)
    | _=>some ((0:Int),true))=some (v,e)∧0≤v:=by
  cases h:Lib.atoiAll (48 :: r)
  case ok v =>
    refine ⟨v,false,rfl,?_⟩
    unfold Lib.atoiAll at h
    have h48:(48:UInt8).toNat=48:=rfl
    simp only [h48] at h
    rw [if_neg (by decide)] at h
    split at h
    · cases h
    · cases h
    · next u hu =>
      split at h
      · cases h
      · split at h
        · cases h
        · cases h
          simp
  case range=>exact ⟨_,_,rfl,by unfold Lib.atoiSat;simp⟩
  · exact ⟨_,_,rfl,Int.le_refl _⟩
theorem sec_I (k:Nat) (hk:fuel<k) (s:ByteArray) (hs:s.size≤2097152):∃ r,F245 k s=some r∧SecR r:=by
  have hk':2097152<k:=hk
  unfold F245
  refine iter_count (fun i x=>x.1=(i:Int)) SecR s.size ?_ ?_ k 0 _ rfl (Nat.zero_le _) (by omega)
  · rintro i ⟨xi,_⟩ rec hxi hi hrec
    simp only at hxi
    subst hxi
    obtain ⟨b,hb,hb2⟩:=byte_lt hi
    simp only
    rw [dT (show (i:Int)<(s.size:Int) by omega),dT (show 0≤(i:Int)∧(i:Int)<(s.size:Int) by omega),hb,w64 (n:=(i:Int)+1) (by omega) (by omega)]
    simp only [cond_true]
    by_cases c1:b.toNat<48
    · rw [dT (show (b.toNat:Int)<48 by omega)]
      exact ⟨_,rfl,by decide,by decide⟩
    rw [dF (show ¬ (b.toNat:Int)<48 by omega),cond_false]
    by_cases c2:57<b.toNat
    · rw [dT (show (57:Int)<(b.toNat:Int) by omega)]
      exact ⟨_,rfl,by decide,by decide⟩
    rw [dF (show ¬ (57:Int)<(b.toNat:Int) by omega),cond_false]
    exact hrec _ (by simp only;omega)
  · rintro ⟨xi,_⟩ rec hxi
    simp only at hxi
    subst hxi
    simp only
    rw [dF (show ¬ (s.size:Int)<(s.size:Int) by omega),cond_false]
    by_cases he:s=ByteArray.mk #[]
    · rw [dT he,cond_true];exact ⟨_,rfl,by decide,by decide⟩
    rw [dF he,cond_false]
    have ht:semTrimLeft s (ByteArray.mk #[48])=some ⟨(Lib.trimLeftB s.data.toList 48).toArray⟩:=rfl
    rw [ht,Option.bind_some]
    generalize Lib.trimLeftB s.data.toList 48=t
    by_cases h10:(10:Int)<((ByteArray.mk t.toArray).size:Int)
    · rw [dT h10,cond_true];exact ⟨_,rfl,by decide,by decide⟩
    rw [dF h10,cond_false]
    rw [mk_size t] at h10
    have mt:=mk_size t
    have z1:(ByteArray.mk #[48]).size=1:=rfl
    rw [fits (a:=ByteArray.mk #[48]) (b:=ByteArray.mk t.toArray) (by rw [z1];omega),cond_true]
    have hd:((ByteArray.mk #[48])++(ByteArray.mk t.toArray)).data.toList=48 :: t:=by rw [append_data];rfl
    obtain ⟨v,e,h1,h2⟩:=atoi_zero t
    have ha:semAtoi ((ByteArray.mk #[48])++(ByteArray.mk t.toArray))=some (v,e):=by
      unfold semAtoi
      rw [dT (show ((ByteArray.mk #[48])++(ByteArray.mk t.toArray)).size≤281474976710656 by rw [size_data,hd,List.length_cons];omega),cond_true,hd]
      exact h1
    rw [ha,Option.bind_some]
    refine ⟨_,rfl,?_,?_⟩
    · simp only;split <;> omega
    · simp only;split <;> omega
theorem sec_I_small (k:Nat) (hk:fuel<k) (n:Nat) (h:n≤60):F245 k (dtext (n:Int))=some ((n:Int),true):=by
  have hk':2097152<k:=hk
  obtain ⟨k,rfl⟩:∃ m,k=m+3:=⟨k-3,by omega⟩
  clear hk hk'
  have:n=0∨n=1∨n=2∨n=3∨n=4∨n=5∨n=6∨n=7∨n=8∨n=9∨n=10∨n=11∨n=12∨n=13∨n=14∨n=15∨n=16∨n=17∨n=18∨n=19∨n=20∨n=21∨n=22∨n=23∨n=24∨n=25∨n=26∨n=27∨n=28∨n=29∨n=30∨n=31∨n=32∨n=33∨n=34∨n=35∨n=36∨n=37∨n=38∨n=39∨n=40∨n=41∨n=42∨n=43∨n=44∨n=45∨n=46∨n=47∨n=48∨n=49∨n=50∨n=51∨n=52∨n=53∨n=54∨n=55∨n=56∨n=57∨n=58∨n=59∨n=60:=by omega
  rcases this with rfl | rfl | rfl | rfl | rfl | rfl | rfl | rfl | rfl | rfl | rfl | rfl | rfl | rfl | rfl | rfl | rfl | rfl | rfl | rfl | rfl | rfl | rfl | rfl | rfl | rfl | rfl | rfl | rfl | rfl | rfl | rfl | rfl | rfl | rfl | rfl | rfl | rfl | rfl | rfl | rfl | rfl | rfl | rfl | rfl | rfl | rfl | rfl | rfl | rfl | rfl | rfl | rfl | rfl | rfl | rfl | rfl | rfl | rfl | rfl | rfl
  all_goals
    show F245 (k+3) _=_
    kernel_rfl
def HexR (s:ByteArray) (r:Int × Bool):Prop:=r.2=true→0≤r.1∧r.1<16777216
theorem hex_S (k:Nat) (hk:fuel<k) (s:ByteArray) (hs:s.size≤big):∃ r,F277 k s=some r∧HexR s r:=by
  have hk':2097152<k:=hk
  have hs':s.size≤1048576:=hs
  unfold F277
  refine iter_count (fun i x=>x.2.1=(i:Int)∧(s.size≤6→0≤x.1∧x.1<16 ^ i)) (HexR s) s.size ?_ ?_ k 0 _ ⟨rfl,fun _=>⟨by decide,by decide⟩⟩ (Nat.zero_le _) (by omega)
  · rintro i ⟨n,xi,_⟩ rec ⟨hxi,h0⟩ hi hrec
    simp only at hxi h0
    subst hxi
    obtain ⟨b,hb,hb2⟩:=byte_lt hi
    simp only
    rw [dT (show (i:Int)<(s.size:Int) by omega),dT (show 0≤(i:Int)∧(i:Int)<(s.size:Int) by omega),hb,w64 (n:=(i:Int)+1) (by omega) (by omega)]
    simp only [cond_true]
    have next:∀ d:Int,0≤d→d<16→∀ m:Int,(s.size≤6→m=n*16+d)→∃ r,rec (m,(i:Int)+1,())=some r∧HexR s r:=fun d d0 d1 m hm=>hrec _ ⟨by simp only;omega,fun h6=>by
      simp only
      rw [hm h6]
      obtain ⟨q1,q2⟩:=h0 h6
      rw [Int.pow_succ]
      generalize (16:Int) ^ i=P at *
      omega⟩
    have small:s.size≤6→0≤n∧n<16777216:=fun h6=>by
      obtain ⟨q1,q2⟩:=h0 h6
      have:(16:Int) ^ i≤16 ^ 5:=by
        have:(16:Nat) ^ i≤16 ^ 5:=Nat.pow_le_pow_right (by decide) (by omega)
        exact_mod_cast this
      have h5:(16:Int) ^ 5=1048576:=by decide
      omega
    have dig:48≤b.toNat→b.toNat≤57→∃ r,rec (wrap64 (wrap64 (n*16)+wrap64 (wr .u8 ((b.toNat:Int)-48))),(i:Int)+1,())=some r∧HexR s r:=fun g1 g2=>by
      have hw:wr .u8 ((b.toNat:Int)-48)=((b.toNat-48:Nat):Int):=wr_byte (m:=48) g1 hb2
      rw [hw,w64 (n:=((b.toNat-48:Nat):Int)) (by omega) (by omega)]
      refine next ((b.toNat-48:Nat):Int) (by omega) (by omega) _ fun h6=>?_
      obtain ⟨q1,q2⟩:=small h6
      rw [w64 (n:=n*16) (by omega) (by omega),w64 (by omega) (by omega)]
    have low':97≤b.toNat→b.toNat≤102→∃ r,rec (wrap64 (wrap64 (wrap64 (n*16)+wrap64 (wr .u8 ((b.toNat:Int)-97)))+10),(i:Int)+1,())=some r∧HexR s r:=fun g1 g2=>by
      have hw:wr .u8 ((b.toNat:Int)-97)=((b.toNat-97:Nat):Int):=wr_byte (m:=97) g1 hb2
      rw [hw,w64 (n:=((b.toNat-97:Nat):Int)) (by omega) (by omega)]
      refine next (((b.toNat-97:Nat):Int)+10) (by omega) (by omega) _ fun h6=>?_
      obtain ⟨q1,q2⟩:=small h6
      rw [w64 (n:=n*16) (by omega) (by omega),w64 (n:=n*16+_) (by omega) (by omega),w64 (by omega) (by omega)]
      omega
    have up:65≤b.toNat→b.toNat≤70→∃ r,rec (wrap64 (wrap64 (wrap64 (n*16)+wrap64 (wr .u8 ((b.toNat:Int)-65)))+10),(i:Int)+1,())=some r∧HexR s r:=fun g1 g2=>by
      have hw:wr .u8 ((b.toNat:Int)-65)=((b.toNat-65:Nat):Int):=wr_byte (m:=65) g1 hb2
      rw [hw,w64 (n:=((b.toNat-65:Nat):Int)) (by omega) (by omega)]
      refine next (((b.toNat-65:Nat):Int)+10) (by omega) (by omega) _ fun h6=>?_
      obtain ⟨q1,q2⟩:=small h6
      rw [w64 (n:=n*16) (by omega) (by omega),w64 (n:=n*16+_) (by omega) (by omega),w64 (by omega) (by omega)]
      omega
    have no:∃ r,some (((0:Int),false):Int × Bool)=some r∧HexR s r:=⟨_,rfl,fun h=>by cases h⟩
    have d48:decide ((48:Int)≤(b.toNat:Int))=decide (48≤b.toNat):=by rw [decide_eq_decide];omega
    have d57:decide ((b.toNat:Int)≤57)=decide (b.toNat≤57):=by rw [decide_eq_decide];omega
    have d97:decide ((97:Int)≤(b.toNat:Int))=decide (97≤b.toNat):=by rw [decide_eq_decide];omega
    have d102:decide ((b.toNat:Int)≤102)=decide (b.toNat≤102):=by rw [decide_eq_decide];omega
    have d65:decide ((65:Int)≤(b.toNat:Int))=decide (65≤b.toNat):=by rw [decide_eq_decide];omega
    have d70:decide ((b.toNat:Int)≤70)=decide (b.toNat≤70):=by rw [decide_eq_decide];omega
    rw [d48,d57,d97,d102,d65,d70]
    by_cases c1:48≤b.toNat
    · rw [decide_eq_true c1,cond_true]
      by_cases c2:b.toNat≤57
      · rw [decide_eq_true c2,cond_true];exact dig c1 c2
      · rw [decide_eq_false c2,cond_false]
        by_cases c3:97≤b.toNat
        · rw [decide_eq_true c3,cond_true]
          by_cases c4:b.toNat≤102
          · rw [decide_eq_true c4,cond_true];exact low' c3 c4
          · rw [decide_eq_false c4,cond_false]
            by_cases c5:65≤b.toNat
            · rw [decide_eq_true c5,cond_true]
              by_cases c6:b.toNat≤70
              · rw [decide_eq_true c6,cond_true];exact up c5 c6
              · rw [decide_eq_false c6,cond_false];exact no
            · rw [decide_eq_false c5,cond_false];exact no
        · rw [decide_eq_false c3,cond_false]
          by_cases c5:65≤b.toNat
          · rw [decide_eq_true c5,cond_true]
            by_cases c6:b.toNat≤70
            · rw [decide_eq_true c6,cond_true];exact up c5 c6
            · rw [decide_eq_false c6,cond_false];exact no
          · rw [decide_eq_false c5,cond_false];exact no
    · rw [decide_eq_false c1,decide_eq_false (show ¬ 97≤b.toNat by omega),decide_eq_false (show ¬ 65≤b.toNat by omega)]
      simp only [cond_false]
      exact no
  · rintro ⟨n,xi,_⟩ rec ⟨hxi,h0⟩
    simp only at hxi h0
    subst hxi
    simp only
    rw [dF (show ¬ (s.size:Int)<(s.size:Int) by omega),cond_false,in_S,Option.bind_some]
    by_cases h6:1≤s.size∧s.size≤6
    · obtain ⟨q1,q2⟩:=h0 h6.2
      rw [dT (show (1:Int)≤(s.size:Int) by omega),dT (show (s.size:Int)≤6 by omega)]
      refine ⟨_,rfl,fun _=>⟨q1,?_⟩⟩
      have:(16:Int) ^ s.size≤16 ^ 6:=by
        have:(16:Nat) ^ s.size≤16 ^ 6:=Nat.pow_le_pow_right (by decide) h6.2
        exact_mod_cast this
      have h5:(16:Int) ^ 6=16777216:=by decide
      omega
    · have:(decide ((1:Int)≤(s.size:Int))&&decide ((s.size:Int)≤6))=false:=by
        rw [Bool.and_eq_false_iff,decide_eq_false_iff_not,decide_eq_false_iff_not];omega
      rw [this]
      exact ⟨_,rfl,fun h=>by cases h⟩
theorem hex_I (k:Nat) (hk:fuel<k) (s:ByteArray) (hs:s.size≤big):∃ r,F326 k s=some r∧HexR s r:=by
  have hk':2097152<k:=hk
  have hs':s.size≤1048576:=hs
  unfold F326
  rw [in_I,Option.bind_some]
  by_cases h6:1≤s.size∧s.size≤6
  case neg =>
    have:(decide ((1:Int)≤(s.size:Int))&&decide ((s.size:Int)≤6))=false:=by
      rw [Bool.and_eq_false_iff,decide_eq_false_iff_not,decide_eq_false_iff_not];omega
    rw [this]
    exact ⟨_,rfl,fun h=>by cases h⟩
  rw [dT (show (1:Int)≤(s.size:Int) by omega),dT (show (s.size:Int)≤6 by omega)]
  simp only [Bool.and_self,Bool.not_true,cond_false]
  refine iter_count (fun i x=>x.2.1=(i:Int)∧0≤x.1∧x.1<16 ^ i) (HexR s) s.size ?_ ?_ k 0 _ ⟨rfl,by decide,by decide⟩ (Nat.zero_le _) (by omega)
  · rintro i ⟨n,xi,_⟩ rec ⟨hxi,q1,q2⟩ hi hrec
    simp only at hxi q1 q2
    subst hxi
    obtain ⟨b,hb,hb2⟩:=byte_lt hi
    have small:n<16777216:=by
      have:(16:Int) ^ i≤16 ^ 5:=by
        have:(16:Nat) ^ i≤16 ^ 5:=Nat.pow_le_pow_right (by decide) (by omega)
        exact_mod_cast this
      have h5:(16:Int) ^ 5=1048576:=by decide
      omega
    have no:∃ r,some (((0:Int),false):Int × Bool)=some r∧HexR s r:=⟨_,rfl,fun h=>by cases h⟩
    have next:∀ d:Int,0≤d→d<16→∃ r,rec (wrap64 (wrap64 (16*n)+d),(i:Int)+1,())=some r∧HexR s r:=fun d d0 d1=>hrec _ ⟨by simp only;omega,by
      simp only
      rw [w64 (n:=16*n) (by omega) (by omega),w64 (by omega) (by omega)]
      rw [Int.pow_succ]
      generalize (16:Int) ^ i=P at *
      omega⟩
    simp only
    rw [dT (show (i:Int)<(s.size:Int) by omega),dT (show 0≤(i:Int)∧(i:Int)<(s.size:Int) by omega),hb,w64 (n:=(i:Int)+1) (by omega) (by omega)]
    simp only [cond_true]
    have hidx:∃ m:Int,semIndexByte (ByteArray.mk #[48,49,50,51,52,53,54,55,56,57,97,98,99,100,101,102]) (b.toNat:Int)=some m ∧ -1≤m∧m<16:=by
      refine byte_of (p:=fun n _=>∃ m:Int,semIndexByte (ByteArray.mk #[48,49,50,51,52,53,54,55,56,57,97,98,99,100,101,102]) (n:Int)=some m ∧ -1≤m∧m<16) (fun n=>⟨_,rfl,?_⟩) b
      revert n
      decide +kernel
    obtain ⟨m,hm,m0,m1⟩:=hidx
    rw [hm,Option.bind_some]
    have last:∃ r,(bif decide (m<0) then some (((0:Int),false):Int × Bool) else rec (wrap64 (wrap64 (16*n)+m),(i:Int)+1,()))=some r∧HexR s r:=by
      by_cases c:m<0
      · rw [dT c];exact no
      · rw [dF c];exact next m (by omega) (by omega)
    by_cases c1:65≤b.toNat
    · rw [dT (show (65:Int)≤(b.toNat:Int) by omega),cond_true]
      by_cases c2:b.toNat≤70
      · rw [dT (show (b.toNat:Int)≤70 by omega),cond_true]
        have hw:wr .u8 ((b.toNat:Int)-65)=((b.toNat-65:Nat):Int):=wr_byte (m:=65) c1 hb2
        rw [hw,w64 (n:=((b.toNat-65:Nat):Int)) (by omega) (by omega),w64 (n:=((b.toNat-65:Nat):Int)+10) (by omega) (by omega),dF (show ¬ ((b.toNat-65:Nat):Int)+10<0 by omega),cond_false]
        exact next _ (by omega) (by omega)
      · rw [dF (show ¬ (b.toNat:Int)≤70 by omega),cond_false];exact last
    · rw [dF (show ¬ (65:Int)≤(b.toNat:Int) by omega),cond_false];exact last
  · rintro ⟨n,xi,_⟩ rec ⟨hxi,q1,q2⟩
    simp only at hxi q1 q2
    subst hxi
    simp only
    rw [dF (show ¬ (s.size:Int)<(s.size:Int) by omega),cond_false]
    refine ⟨_,rfl,fun _=>⟨q1,?_⟩⟩
    have:(16:Int) ^ s.size≤16 ^ 6:=by
      have:(16:Nat) ^ s.size≤16 ^ 6:=Nat.pow_le_pow_right (by decide) h6.2
      exact_mod_cast this
    have h5:(16:Int) ^ 6=16777216:=by decide
    omega
end Go.Proofs.YtigbabjhcihmaaaGreatDoor.Fns
namespace Go.Proofs.YtigbabjhcihmaaaGreatDoor.Fns
open Go Go.RowKit Go.Proofs Go.Proofs.YtigbabjhcihmaaaGreatDoor.Ev Go.Proofs.YtigbabjhcihmaaaGreatDoor.Pl
set_option linter.unusedVariables false
set_option linter.unusedSimpArgs false
set_option maxRecDepth 100000
def BodyR (s:ByteArray) (r:ByteArray × Int × Int):Prop:=r.1.size≤s.size∧(∃ m:Nat,r.2.1=(m:Int)∧m≤s.size)∧(r.2.2=0∨r.2.2=1∨r.2.2=2)
theorem body_none (s:ByteArray) (c:Int) (h:c=0∨c=1∨c=2):BodyR s (ByteArray.mk #[],0,c):=⟨Nat.zero_le _,⟨0,rfl,Nat.zero_le _⟩,h⟩
theorem unchunk_S (k:Nat) (hk:fuel<k) (s:ByteArray) (hs:s.size≤big):∃ r,F230 k s=some r∧BodyR s r:=by
  have hk':2097152<k:=hk
  have hs':s.size≤1048576:=hs
  have hlen:s.data.toList.length=s.size:=(size_data s).symm
  unfold F230
  suffices h:∀ (d p j:Nat) (out:ByteArray),s.size-p≤d→d<j→p≤s.size→out.size≤60→out.size≤p→∃ r,iter (σ:=ByteArray × Int × Unit) _ j (out,(p:Int),())=some r∧BodyR s r from h s.size 0 k (ByteArray.mk #[]) (by omega) (by omega) (by omega) (by decide) (by decide)
  intro d
  induction d with
  | zero =>
    intro p j out hd hj hp ho hop
    obtain ⟨j,rfl⟩:∃ m,j=m+1:=⟨j-1,by omega⟩
    simp only [iter]
    rw [line_S k hk s hs p hp,Option.bind_some]
    have hdl:(s.data.toList.drop p).length=s.size-p:=by rw [List.length_drop,hlen]
    have hneg:Lib.index (s.data.toList.drop p) [13,10]<0:=by
      rcases Int.lt_or_le (Lib.index (s.data.toList.drop p) [13,10]) 0 with q | q
      · exact q
      · exfalso
        have hroom:=Lib.index_room (s.data.toList.drop p) [13,10] q
        have h2:([13,10]:List UInt8).length=2:=rfl
        rw [h2,hdl] at hroom
        omega
    unfold lineAt
    rw [if_pos hneg]
    simp only
    rw [dT (show (-1:Int)<0 by decide),cond_true]
    cases decide ((8:Int)<wrap64 ((s.size:Int)-(p:Int))) with
    | true=>exact ⟨_,rfl,body_none s 2 (by omega)⟩
    | false=>exact ⟨_,rfl,body_none s 1 (by omega)⟩
  | succ d ih =>
    intro p j out hd hj hp ho hop
    obtain ⟨j,rfl⟩:∃ m,j=m+1:=⟨j-1,by omega⟩
    simp only [iter]
    rw [line_S k hk s hs p hp,Option.bind_some]
    have hdl:(s.data.toList.drop p).length=s.size-p:=by rw [List.length_drop,hlen]
    unfold lineAt
    rcases Int.lt_or_le (Lib.index (s.data.toList.drop p) [13,10]) 0 with q | q
    · rw [if_pos q]
      simp only
      rw [dT (show (-1:Int)<0 by decide),cond_true]
      cases decide ((8:Int)<wrap64 ((s.size:Int)-(p:Int))) with
      | true=>exact ⟨_,rfl,body_none s 2 (by omega)⟩
      | false=>exact ⟨_,rfl,body_none s 1 (by omega)⟩
    rw [if_neg (by omega)]
    have hroom:=Lib.index_room (s.data.toList.drop p) [13,10] q
    have h2:([13,10]:List UInt8).length=2:=rfl
    rw [h2,hdl] at hroom
    obtain ⟨i,hi⟩:∃ i:Nat,Lib.index (s.data.toList.drop p) [13,10]=i:=⟨(Lib.index (s.data.toList.drop p) [13,10]).toNat,by omega⟩
    rw [hi] at hroom ⊢
    simp only
    rw [Int.toNat_natCast,dF (show ¬ ((p+i+2:Nat):Int)<0 by omega),cond_false]
    have hlsz:(s.extract p (p+i)).size≤s.size:=by rw [size_data,extract_data,List.length_take,List.length_drop,hlen];omega
    obtain ⟨⟨n,ok⟩,hh,hR⟩:=hex_S k hk (s.extract p (p+i)) (by show _≤1048576;omega)
    rw [hh,Option.bind_some]
    cases ok with
    | false=>exact ⟨_,rfl,body_none s 2 (by omega)⟩
    | true =>
      obtain ⟨n0,n1⟩:=hR rfl
      simp only at n0 n1
      obtain ⟨n,rfl⟩:∃ m:Nat,n=m:=⟨n.toNat,by omega⟩
      ((try dsimp only);rw [Bool.not_true,cond_false])
      rw [w64 (n:=(out.size:Int)+(n:Int)) (by omega) (by omega),w64 (n:=((p+i+2:Nat):Int)+(n:Int)) (by omega) (by omega),w64 (n:=((p+i+2:Nat):Int)+(n:Int)+2) (by omega) (by omega),w64 (n:=((p+i+2:Nat):Int)+(n:Int)+1) (by omega) (by omega)]
      by_cases c1:(60:Int)<(out.size:Int)+(n:Int)
      · rw [dT c1];exact ⟨_,rfl,body_none s 2 (by omega)⟩
      rw [dF c1,cond_false]
      by_cases c2:(s.size:Int)<((p+i+2:Nat):Int)+(n:Int)+2
      · rw [dT c2];exact ⟨_,rfl,body_none s 1 (by omega)⟩
      rw [dF c2,cond_false,dT (show 0≤((p+i+2:Nat):Int)+(n:Int)∧((p+i+2:Nat):Int)+(n:Int)<(s.size:Int) by omega),cond_true]
      cases decide (bt s (((p+i+2:Nat):Int)+(n:Int))=13) with
      | false=>exact ⟨_,rfl,body_none s 2 (by omega)⟩
      | true =>
        ((try dsimp only);rw [Bool.not_true,cond_false])
        rw [dT (show 0≤((p+i+2:Nat):Int)+(n:Int)+1∧((p+i+2:Nat):Int)+(n:Int)+1<(s.size:Int) by omega),cond_true]
        cases decide (bt s (((p+i+2:Nat):Int)+(n:Int)+1)=10) with
        | false=>exact ⟨_,rfl,body_none s 2 (by omega)⟩
        | true =>
          ((try dsimp only);rw [Bool.not_true,cond_false])
          have t1:(((p+i+2:Nat):Int)+(n:Int)).toNat=p+i+2+n:=by omega
          rw [dT (show 0≤((p+i+2:Nat):Int)∧((p+i+2:Nat):Int)≤((p+i+2:Nat):Int)+(n:Int)∧((p+i+2:Nat):Int)+(n:Int)≤(s.size:Int) by omega),cond_true,t1,Int.toNat_natCast]
          have hsz:(s.extract (p+i+2) (p+i+2+n)).size=n:=by rw [size_data,extract_data,List.length_take,List.length_drop,hlen];omega
          rw [fits (a:=out) (b:=s.extract (p+i+2) (p+i+2+n)) (by rw [hsz];omega),cond_true]
          have e1:((p+i+2:Nat):Int)+(n:Int)+2=((p+i+2+n+2:Nat):Int):=by omega
          rw [e1]
          by_cases c3:(n:Int)=0
          · rw [dT c3,cond_true]
            exact ⟨_,rfl,by simp only [ByteArray.size_append,hsz];omega,⟨p+i+2+n+2,rfl,by omega⟩,Or.inl rfl⟩
          · rw [dF c3,cond_false]
            exact ih (p+i+2+n+2) j (out++s.extract (p+i+2) (p+i+2+n)) (by omega) (by omega) (by omega) (by rw [ByteArray.size_append,hsz];omega) (by rw [ByteArray.size_append,hsz];omega)
def PieceR (s:ByteArray) (a:Int) (r:ByteArray × Int × Int):Prop :=
  (r.2.2=0∧(r.1.size:Int)+a≤60∧∃ m:Nat,r.2.1=(m:Int)∧r.1.size+4≤m∧m≤s.size)∨(r.2.2=1∨r.2.2=2)
theorem piece_I (k:Nat) (hk:fuel<k) (s:ByteArray) (hs:s.size≤big) (a:Nat) (ha:a≤60):∃ r,F293 k s (a:Int)=some r∧PieceR s (a:Int) r:=by
  have hk':2097152<k:=hk
  have hs':s.size≤1048576:=hs
  have hlen:s.data.toList.length=s.size:=(size_data s).symm
  unfold F293
  have hsep:(ByteArray.mk #[13,10]).data.toList=[13,10]:=rfl
  rw [cut_val s _ hs,hsep,Option.bind_some]
  rcases Int.lt_or_le (Lib.index s.data.toList [13,10]) 0 with q | q
  · rw [if_pos q]
    ((try dsimp only);rw [Bool.not_false,cond_true])
    cases decide ((s.size:Int)≤8) with
    | true=>exact ⟨_,rfl,Or.inr (Or.inl rfl)⟩
    | false=>exact ⟨_,rfl,Or.inr (Or.inr rfl)⟩
  rw [if_neg (by omega)]
  have hroom:=Lib.index_room s.data.toList [13,10] q
  have h2:([13,10]:List UInt8).length=2:=rfl
  rw [h2,hlen] at hroom
  obtain ⟨i,hi⟩:∃ i:Nat,Lib.index s.data.toList [13,10]=i:=⟨(Lib.index s.data.toList [13,10]).toNat,by omega⟩
  rw [hi] at hroom ⊢
  rw [Int.toNat_natCast,h2]
  obtain ⟨L,hL⟩:∃ L,L=ByteArray.mk (s.data.toList.take i).toArray:=⟨_,rfl⟩
  obtain ⟨R,hR⟩:∃ R,R=ByteArray.mk (s.data.toList.drop (i+2)).toArray:=⟨_,rfl⟩
  rw [← hL,← hR]
  have hLs:L.size=i:=by rw [hL,mk_size,List.length_take];omega
  have hRs:R.size=s.size-(i+2):=by rw [hR,mk_size,List.length_drop,hlen]
  have hRl:R.data.toList.length=R.size:=(size_data R).symm
  ((try dsimp only);rw [Bool.not_true,cond_false])
  obtain ⟨⟨n,ok⟩,hh,hX⟩:=hex_I k hk L (by show _≤1048576;omega)
  rw [hh,Option.bind_some]
  cases ok with
  | false=>exact ⟨_,rfl,Or.inr (Or.inr rfl)⟩
  | true =>
    obtain ⟨n0,n1⟩:=hX rfl
    simp only at n0 n1
    obtain ⟨n,rfl⟩:∃ m:Nat,n=m:=⟨n.toNat,by omega⟩
    ((try dsimp only);rw [Bool.not_true,cond_false])
    rw [w64 (n:=(a:Int)+(n:Int)) (by omega) (by omega),w64 (n:=(n:Int)+2) (by omega) (by omega)]
    by_cases c1:(60:Int)<(a:Int)+(n:Int)
    · rw [dT c1];exact ⟨_,rfl,Or.inr (Or.inr rfl)⟩
    rw [dF c1,cond_false]
    by_cases c2:(R.size:Int)<(n:Int)+2
    · rw [dT c2];exact ⟨_,rfl,Or.inr (Or.inl rfl)⟩
    rw [dF c2,cond_false,dT (show 0≤(n:Int)∧(n:Int)≤(n:Int)+2∧(n:Int)+2≤(R.size:Int) by omega),cond_true]
    cases decide ((R.extract (n:Int).toNat ((n:Int)+2).toNat)=(ByteArray.mk #[13,10])) with
    | false=>exact ⟨_,rfl,Or.inr (Or.inr rfl)⟩
    | true =>
      ((try dsimp only);rw [Bool.not_true,cond_false])
      rw [dT (show (0:Int)≤0∧(0:Int)≤(n:Int)∧(n:Int)≤(R.size:Int) by omega),cond_true,hLs,w64 (n:=(i:Int)+(n:Int)) (by omega) (by omega),w64 (n:=(i:Int)+(n:Int)+4) (by omega) (by omega)]
      have hsz:(R.extract (0:Int).toNat (n:Int).toNat).size=n:=by
        rw [size_data,extract_data,List.length_take,List.length_drop,hRl,Int.toNat_natCast]
        have z1:(0:Int).toNat=0:=rfl
        rw [z1];omega
      refine ⟨_,rfl,Or.inl ⟨rfl,by simp only [hsz];omega,i+n+4,by simp only;omega,by simp only [hsz];omega,by omega⟩⟩
theorem unchunk_I (k:Nat) (hk:fuel<k) (s:ByteArray) (hs:s.size≤big):∃ r,F244 k s=some r∧BodyR s r:=by
  have hk':2097152<k:=hk
  have hs':s.size≤1048576:=hs
  have hlen:s.data.toList.length=s.size:=(size_data s).symm
  unfold F244
  suffices h:∀ (d p j:Nat) (out:ByteArray),s.size-p≤d→d<j→p≤s.size→out.size≤60→out.size≤p→∃ r,iter (σ:=ByteArray × Int × Unit) _ j (out,(p:Int),())=some r∧BodyR s r from h s.size 0 k (ByteArray.mk #[]) (by omega) (by omega) (by omega) (by decide) (by decide)
  intro d
  induction d with
  | zero =>
    intro p j out hd hj hp ho hop
    obtain ⟨j,rfl⟩:∃ m,j=m+1:=⟨j-1,by omega⟩
    simp only [iter]
    rw [dT (show 0≤(p:Int)∧(p:Int)≤(s.size:Int)∧(s.size:Int)≤(s.size:Int) by omega),cond_true,Int.toNat_natCast,Int.toNat_natCast]
    obtain ⟨r,hr,hP⟩:=piece_I k hk (s.extract p s.size) (by rw [tail_size];show _≤1048576;omega) out.size ho
    rw [hr,Option.bind_some]
    rcases hP with ⟨h0,_,m,hm,h4,hms⟩ | hc
    · rw [tail_size] at hms;omega
    · rw [dF (show ¬ r.2.2=0 by omega)]
      exact ⟨_,rfl,body_none s r.2.2 (by omega)⟩
  | succ d ih =>
    intro p j out hd hj hp ho hop
    obtain ⟨j,rfl⟩:∃ m,j=m+1:=⟨j-1,by omega⟩
    simp only [iter]
    rw [dT (show 0≤(p:Int)∧(p:Int)≤(s.size:Int)∧(s.size:Int)≤(s.size:Int) by omega),cond_true,Int.toNat_natCast,Int.toNat_natCast]
    obtain ⟨r,hr,hP⟩:=piece_I k hk (s.extract p s.size) (by rw [tail_size];show _≤1048576;omega) out.size ho
    rw [hr,Option.bind_some]
    rcases hP with ⟨h0,h60,m,hm,h4,hms⟩ | hc
    · rw [tail_size] at hms
      rw [dT h0,hm,w64 (n:=(p:Int)+(m:Int)) (by omega) (by omega)]
      simp only [Bool.not_true,cond_false]
      have e1:(p:Int)+(m:Int)=((p+m:Nat):Int):=by omega
      rw [e1]
      by_cases c:r.1=ByteArray.mk #[]
      · rw [dT c,cond_true]
        exact ⟨_,rfl,by simp only;omega,⟨p+m,rfl,by omega⟩,Or.inl rfl⟩
      · rw [dF c,cond_false,fits (a:=out) (b:=r.1) (by omega),cond_true]
        exact ih (p+m) j (out++r.1) (by omega) (by omega) (by omega) (by rw [ByteArray.size_append];omega) (by rw [ByteArray.size_append];omega)
    · rw [dF (show ¬ r.2.2=0 by omega)]
      exact ⟨_,rfl,body_none s r.2.2 (by omega)⟩
def sizedF (l:List D0) (n:Nat):Prop:=hasN nTE l=false∧valsOf nCL l=[dtext (n:Int)]
theorem framed_sized {a:D1} (h:respOk a=true) (hb:bare a.1=false):sizedF (framedF a) a.2.2.size:=by
  obtain ⟨h1,h2,h3,h4,h5⟩:=resp_parts h
  obtain ⟨p1,p2,p3,p4⟩:=plain_ok h3
  have hff:framedF a=a.2.1++[(nCL,dtext (a.2.2.size:Int))]:=by unfold framedF;rw [if_neg (by rw [hb];decide)]
  have key:∀ (name:ByteArray) (l m:List D0),valsOf name (l++m)=valsOf name l++valsOf name m:=fun name l m=>by unfold valsOf;rw [List.filter_append,List.map_append]
  have none':∀ (name:ByteArray) (l:List D0),hasN name l=false→valsOf name l=[]:=fun name l hl=>by
    unfold hasN at hl
    have:=of_decide_eq_false hl
    exact List.length_eq_zero_iff.mp (by omega)
  rw [hff]
  refine ⟨?_,?_⟩
  · unfold hasN
    rw [key,none' _ _ p3]
    have:valsOf nTE [(nCL,dtext (a.2.2.size:Int))]=[]:=by
      unfold valsOf
      have:decide (nCL=nTE)=false:=by decide
      simp [this]
    rw [this];rfl
  · rw [key,none' _ _ p4]
    unfold valsOf
    simp
theorem vals_cost (name:ByteArray) (l:List D0) (hc:cost (.slice U0) l≤big):(Lib.join ((valsOf name l).map (·.data.toList)) comma.data.toList).length≤2097152:=by
  have hc':l.length+(l.map (cost U0)).sum≤1048576:=hc
  have:=joined_len name l l.length (Nat.le_refl _)
  rw [List.take_length,List.take_of_length_le (by rw [List.length_map];exact Nat.le_refl _)] at this
  omega
theorem body_S (k:Nat) (hk:fuel<k) (l:List D0) (hc:cost (.slice U0) l≤big) (s:ByteArray) (hs:s.size≤big) :
    ∃ r,F147 k l s true=some r∧BodyR s r∧(∀ n,n≤60→sizedF l n→s.size=n→r=(s,(n:Int),0)):=by
  have hk':2097152<k:=hk
  have hs':s.size≤1048576:=hs
  have hlen:s.data.toList.length=s.size:=(size_data s).symm
  have v1:=vals_cost nTE l hc
  have v2:=vals_cost nCL l hc
  unfold F147
  rw [getS k hk l nTE hc,getS k hk l nCL hc]
  simp only [Option.bind_some]
  obtain ⟨⟨m,ok⟩,q1,q2,q3⟩:=sec_S k hk ⟨(Lib.join ((valsOf nCL l).map (·.data.toList)) comma.data.toList).toArray⟩ (by rw [mk_size];exact v2)
  simp only at q2 q3
  rw [q1]
  simp only [Option.bind_some]
  have ex:∀ n,n≤60→sizedF l n→decide (0<(valsOf nTE l).length)=false∧decide (0<(valsOf nCL l).length)=true∧m=(n:Int)∧ok=true:=by
    intro n hn hz
    refine ⟨hz.1,by rw [hz.2];rfl,?_⟩
    have hj:(⟨(Lib.join ((valsOf nCL l).map (·.data.toList)) comma.data.toList).toArray⟩:ByteArray)=dtext (n:Int):=by
      apply bytes_ext
      rw [hz.2,List.map_cons,List.map_nil,Lib.join_one]
    rw [hj,sec_S_small k hk n hn] at q1
    cases q1
    exact ⟨rfl,rfl⟩
  have hlo:=lower_S k ⟨(Lib.join ((valsOf nTE l).map (·.data.toList)) comma.data.toList).toArray⟩ (by rw [mk_size];omega) (by rw [mk_size];omega)
  cases hte:decide (0<(valsOf nTE l).length) with
  | true =>
    rw [hte] at ex
    have ex:∀ n,n≤60→sizedF l n→False:=fun n h1 h2=>by cases (ex n h1 h2).1
    rw [hlo]
    simp only [Option.bind_some,cond_true]
    cases decide (lower ⟨(Lib.join ((valsOf nTE l).map (·.data.toList)) comma.data.toList).toArray⟩=ByteArray.mk #[99,104,117,110,107,101,100]) with
    | false=>exact ⟨_,rfl,body_none s 2 (by omega),fun n h1 h2=>(ex n h1 h2).elim⟩
    | true =>
      simp only [Bool.not_true,cond_false]
      cases decide (0<(valsOf nCL l).length) with
      | true=>exact ⟨_,rfl,body_none s 2 (by omega),fun n h1 h2=>(ex n h1 h2).elim⟩
      | false =>
        simp only [cond_false]
        obtain ⟨r,h1,h2⟩:=unchunk_S k hk s hs
        rw [h1]
        exact ⟨r,rfl,h2,fun n h1 h2=>(ex n h1 h2).elim⟩
  | false =>
    simp only [cond_false]
    cases hcl:decide (0<(valsOf nCL l).length) with
    | false =>
      rw [hcl] at ex
      have ex:∀ n,n≤60→sizedF l n→False:=fun n h1 h2=>by cases (ex n h1 h2).2.1
      simp only [cond_false,cond_true]
      cases decide ((60:Int)<(s.size:Int)) with
      | true=>exact ⟨_,rfl,body_none s 2 (by omega),fun n h1 h2=>(ex n h1 h2).elim⟩
      | false=>exact ⟨_,rfl,⟨Nat.le_refl _,⟨s.size,rfl,Nat.le_refl _⟩,Or.inl rfl⟩,fun n h1 h2=>(ex n h1 h2).elim⟩
    | true =>
      simp only [cond_true]
      cases hok:ok with
      | false=>exact ⟨_,rfl,body_none s 2 (by omega),fun n h1 h2=>by have:=(ex n h1 h2).2.2.2;rw [hok] at this;cases this⟩
      | true =>
        simp only [Bool.not_true,cond_false]
        by_cases c1:(60:Int)<m
        · rw [dT c1]
          exact ⟨_,rfl,body_none s 2 (by omega),fun n h1 h2=>by have:=(ex n h1 h2).2.2.1;omega⟩
        rw [dF c1,cond_false]
        by_cases c2:(s.size:Int)<m
        · rw [dT c2]
          exact ⟨_,rfl,body_none s 1 (by omega),fun n h1 h2 h3=>by have:=(ex n h1 h2).2.2.1;omega⟩
        rw [dF c2,cond_false,dT (show (0:Int)≤0∧(0:Int)≤m∧m≤(s.size:Int) by omega),cond_true]
        have z1:(0:Int).toNat=0:=rfl
        refine ⟨_,rfl,⟨?_,⟨m.toNat,by simp only;omega,by omega⟩,Or.inl rfl⟩,fun n h1 h2 h3=>?_⟩
        · simp only
          rw [size_data,extract_data,List.length_take,List.length_drop,hlen];omega
        · have hm:=(ex n h1 h2).2.2.1
          have:s.extract (0:Int).toNat m.toNat=s:=bytes_ext (by
            rw [extract_data,z1,List.drop_zero,List.take_of_length_le (by rw [hlen];omega)])
          rw [this,hm]
theorem body_I' (k:Nat) (hk:fuel<k) (l:List D0) (hc:cost (.slice U0) l≤big) (s:ByteArray) (hs:s.size≤big) :
    ∃ r,F158 k l s true=some r∧BodyR s r∧(∀ n,n≤60→sizedF l n→s.size=n→r=(s,(n:Int),0)):=by
  have hk':2097152<k:=hk
  have hs':s.size≤1048576:=hs
  have hlen:s.data.toList.length=s.size:=(size_data s).symm
  have v1:=vals_cost nTE l hc
  have v2:=vals_cost nCL l hc
  unfold F158
  rw [getI k hk l nTE hc,getI k hk l nCL hc]
  simp only [Option.bind_some]
  obtain ⟨⟨m,ok⟩,q1,q2,q3⟩:=sec_I k hk ⟨(Lib.join ((valsOf nCL l).map (·.data.toList)) comma.data.toList).toArray⟩ (by rw [mk_size];exact v2)
  simp only at q2 q3
  have ex:∀ n,n≤60→sizedF l n→decide (0<(valsOf nTE l).length)=false∧decide (0<(valsOf nCL l).length)=true∧m=(n:Int)∧ok=true:=by
    intro n hn hz
    refine ⟨hz.1,by rw [hz.2];rfl,?_⟩
    have hj:(⟨(Lib.join ((valsOf nCL l).map (·.data.toList)) comma.data.toList).toArray⟩:ByteArray)=dtext (n:Int):=by
      apply bytes_ext
      rw [hz.2,List.map_cons,List.map_nil,Lib.join_one]
    rw [hj,sec_I_small k hk n hn] at q1
    cases q1
    exact ⟨rfl,rfl⟩
  have hlo:=lower_I k ⟨(Lib.join ((valsOf nTE l).map (·.data.toList)) comma.data.toList).toArray⟩ (by rw [mk_size];omega) (by rw [mk_size];omega)
  cases hte:decide (0<(valsOf nTE l).length) with
  | true =>
    rw [hte] at ex
    have ex:∀ n,n≤60→sizedF l n→False:=fun n h1 h2=>by cases (ex n h1 h2).1
    rw [hlo]
    simp only [Option.bind_some,cond_true]
    cases decide (lower ⟨(Lib.join ((valsOf nTE l).map (·.data.toList)) comma.data.toList).toArray⟩=ByteArray.mk #[99,104,117,110,107,101,100]) with
    | false=>exact ⟨_,rfl,body_none s 2 (by omega),fun n h1 h2=>(ex n h1 h2).elim⟩
    | true =>
      simp only [Bool.not_true,cond_false]
      cases decide (0<(valsOf nCL l).length) with
      | true=>exact ⟨_,rfl,body_none s 2 (by omega),fun n h1 h2=>(ex n h1 h2).elim⟩
      | false =>
        simp only [cond_false]
        obtain ⟨r,h1,h2⟩:=unchunk_I k hk s hs
        rw [h1]
        exact ⟨r,rfl,h2,fun n h1 h2=>(ex n h1 h2).elim⟩
  | false =>
    simp only [cond_false]
    cases hcl:decide (0<(valsOf nCL l).length) with
    | false =>
      rw [hcl] at ex
      have ex:∀ n,n≤60→sizedF l n→False:=fun n h1 h2=>by cases (ex n h1 h2).2.1
      simp only [cond_false,Bool.not_true]
      cases decide ((60:Int)<(s.size:Int)) with
      | true=>exact ⟨_,rfl,body_none s 2 (by omega),fun n h1 h2=>(ex n h1 h2).elim⟩
      | false=>exact ⟨_,rfl,⟨Nat.le_refl _,⟨s.size,rfl,Nat.le_refl _⟩,Or.inl rfl⟩,fun n h1 h2=>(ex n h1 h2).elim⟩
    | true =>
      rw [q1]
      simp only [cond_true,Option.bind_some]
      cases hok:ok with
      | false=>exact ⟨_,rfl,body_none s 2 (by omega),fun n h1 h2=>by have:=(ex n h1 h2).2.2.2;rw [hok] at this;cases this⟩
      | true =>
        simp only [Bool.not_true,cond_false]
        by_cases c1:(60:Int)<m
        · rw [dT c1]
          exact ⟨_,rfl,body_none s 2 (by omega),fun n h1 h2=>by have:=(ex n h1 h2).2.2.1;omega⟩
        rw [dF c1,cond_false]
        by_cases c2:(s.size:Int)<m
        · rw [dT c2]
          exact ⟨_,rfl,body_none s 1 (by omega),fun n h1 h2 h3=>by have:=(ex n h1 h2).2.2.1;omega⟩
        rw [dF c2,cond_false,dT (show (0:Int)≤0∧(0:Int)≤m∧m≤(s.size:Int) by omega),cond_true]
        have z1:(0:Int).toNat=0:=rfl
        refine ⟨_,rfl,⟨?_,⟨m.toNat,by simp only;omega,by omega⟩,Or.inl rfl⟩,fun n h1 h2 h3=>?_⟩
        · simp only
          rw [size_data,extract_data,List.length_take,List.length_drop,hlen];omega
        · have hm:=(ex n h1 h2).2.2.1
          have:s.extract (0:Int).toNat m.toNat=s:=bytes_ext (by
            rw [extract_data,z1,List.drop_zero,List.take_of_length_le (by rw [hlen];omega)])
          rw [this,hm]
end Go.Proofs.YtigbabjhcihmaaaGreatDoor.Fns
