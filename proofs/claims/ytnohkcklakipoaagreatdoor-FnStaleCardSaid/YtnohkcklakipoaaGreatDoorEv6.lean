/- What the claim's form reads of the arguments is typed data; and the frame of a law's row. -/
import Derived.Test.YtnohkcklakipoaaGreatDoorEv5
import Derived.ProofKit
import Derived.OpenShut
import Derived.ShutString
import Derived.ChangeOld
import Derived.Below
import Derived.SizedLaws
import Derived.WideKeyArgs
import Derived.Deep.Slices
import Derived.KernelRfl
namespace Go.Proofs.YtnohkcklakipoaaGreatDoor.Ev
open Go Go.RowKit Go.ChangeShapes Go.WideShapes
set_option linter.unusedVariables false
set_option linter.unusedSimpArgs false
def Ty.noErr:Ty→Bool
  | .err=>false
  | .adr=>false
  | .slice e=>e.noErr
  | .pair a b=>a.noErr&&b.noErr
  | .struct b=>b.noErr
  | _=>true
def Ty.Ok:(t:Ty)→t.den→Prop
  | .int k,n=>k.min≤n∧n≤k.max
  | .bool,_=>True
  | .str,s=>s.size≤maxLen
  | .err,_=>True
  | .adr,_=>True
  | .slice e,l=>l.length≤maxLen∧∀ x∈l,e.Ok x
  | .pair a b,x=>a.Ok x.1∧b.Ok x.2
  | .struct b,x=>b.Ok x
section
variable {H:Type} {enc:TypeId × Value→H} {P:Program} {w:World} {base:Nat} {spare:Nat→Bool} {held:Bool}
theorem TyOf.cellsOf {t:TypeId} {ty:Ty} (h:TyOf P t ty):P.cellsOf t=ty.size:=by
  obtain ⟨i,h1,h2,_⟩:=h.basic
  unfold Program.cellsOf
  rw [h1];exact h2
theorem mapM_cells {a:Addr}:∀ (js:List Nat) (cs:List Value),(js.mapM fun i=>w.cell? (a.add i))=some cs→cs.length=js.length∧∀ (k j:Nat) (c:Value),js[k]? = some j→cs[k]? = some c→w.cell? (a.add j)=some c
  | [],cs,h=>by simp at h;subst h;exact ⟨rfl,fun k j c hk=>by simp at hk⟩
  | j :: js,cs,h=>by
    rw [List.mapM_cons] at h
    cases hc:w.cell? (a.add j) with
    | none=>rw [hc] at h;simp at h
    | some c =>
      rw [hc] at h
      cases hr:(js.mapM fun i=>w.cell? (a.add i)) with
      | none=>rw [hr] at h;simp at h
      | some r =>
        rw [hr] at h
        simp at h
        subst h
        obtain ⟨h1,h2⟩:=mapM_cells js r hr
        refine ⟨by simp [h1],fun k j' c' hk hc'=>?_⟩
        cases k with
        | zero=>simp at hk hc';subst hk;subst hc';exact hc
        | succ k=>exact h2 k j' c' (by simpa using hk) (by simpa using hc')
theorem read_ty:∀ (ty:Ty),ty.noErr=true →
    (∀ (t:TypeId) (n:Nat) (cs:List Value) (x:DataW H × List MemPlace),TyOf P t ty→DataW.trod enc P w base spare held n t cs=some x→∃ y:ty.den,Holds w (fun _=>True) ty y cs∧ty.Ok y) ∧
    (∀ (fs:List Field) (off n:Nat) (cs:List Value),(TyF P ty).2 fs off→(∀ f∈fs,∃ x,DataW.trod enc P w base spare held n f.type ((cs.drop f.offset).take (P.cellsOf f.type))=some x) →
      ∃ y:ty.den,Holds w (fun _=>True) ty y ((cs.drop off).take ty.size)∧ty.Ok y):=by
  intro ty
  have second:∀ {ty:Ty},(∀ a b,ty ≠ .pair a b)→(∀ (t:TypeId) (n:Nat) (cs:List Value) (x:DataW H × List MemPlace),TyOf P t ty→DataW.trod enc P w base spare held n t cs=some x→∃ y:ty.den,Holds w (fun _=>True) ty y cs∧ty.Ok y) →
      ∀ (fs:List Field) (off n:Nat) (cs:List Value),(TyF P ty).2 fs off→(∀ f∈fs,∃ x,DataW.trod enc P w base spare held n f.type ((cs.drop f.offset).take (P.cellsOf f.type))=some x) →
      ∃ y:ty.den,Holds w (fun _=>True) ty y ((cs.drop off).take ty.size)∧ty.Ok y:=by
    intro ty hp h fs off n cs hf hr
    obtain ⟨g,rfl,h1,h2,_⟩:=TyF.last hp hf
    obtain ⟨x,hx⟩:=hr g (by simp)
    rw [h1,h2.cellsOf] at hx
    exact h _ _ _ _ h2 hx
  induction ty with
  | int k =>
    intro _
    have first:∀ (t:TypeId) (n:Nat) (cs:List Value) (x:DataW H × List MemPlace),TyOf P t (.int k)→DataW.trod enc P w base spare held n t cs=some x→∃ y:Int,Holds w (fun _=>True) (.int k) y cs∧Ty.Ok (.int k) y:=by
      intro t n cs x ht h
      obtain ⟨m,rfl,_,hw⟩:=DataW.trod_int ht.1 h
      refine ⟨m,rfl,?_⟩
      simp only [Lit.wf,Bool.and_eq_true,decide_eq_true_eq] at hw
      exact hw
    exact ⟨first,second (by intro a b e;cases e) first⟩
  | bool =>
    intro _
    have first:∀ (t:TypeId) (n:Nat) (cs:List Value) (x:DataW H × List MemPlace),TyOf P t .bool→DataW.trod enc P w base spare held n t cs=some x→∃ y:Bool,Holds w (fun _=>True) .bool y cs∧Ty.Ok .bool y:=by
      intro t n cs x ht h
      obtain ⟨b,rfl,_⟩:=DataW.trod_bool ht.1 h
      exact ⟨b,rfl,trivial⟩
    exact ⟨first,second (by intro a b e;cases e) first⟩
  | str =>
    intro _
    have first:∀ (t:TypeId) (n:Nat) (cs:List Value) (x:DataW H × List MemPlace),TyOf P t .str→DataW.trod enc P w base spare held n t cs=some x→∃ y:ByteArray,Holds w (fun _=>True) .str y cs∧Ty.Ok .str y:=by
      intro t n cs x ht h
      obtain ⟨s,rfl,_,hs⟩:=DataW.trod_string ht.1 h
      exact ⟨s,rfl,hs⟩
    exact ⟨first,second (by intro a b e;cases e) first⟩
  | err=>intro h;cases h
  | adr=>intro h;cases h
  | slice e ih =>
    intro hne
    obtain ⟨ih1,_⟩:=ih hne
    have first:∀ (t:TypeId) (n:Nat) (cs:List Value) (x:DataW H × List MemPlace),TyOf P t (.slice e)→DataW.trod enc P w base spare held n t cs=some x→∃ y:List e.den,Holds w (fun _=>True) (.slice e) y cs∧Ty.Ok (.slice e) y:=by
      intro t n cs x ht h
      obtain ⟨⟨u,hu,hte⟩,_⟩:=ht
      have hte:TyOf P u e:=hte
      rcases Deep.open_slice hu h with ⟨rfl,_⟩ | ⟨ad,len,cap,m,n',D,Pl,rfl,_,hl,hmax,hm,_,hel⟩
      · exact ⟨[],⟨none,0,rfl,Nat.le_refl _,fun i hi=>absurd hi (Nat.not_lt_zero _)⟩,Nat.zero_le _,fun x hx=>by simp at hx⟩
      · have hsz:=hte.cellsOf
        have hlm:len≤m:=by rw [hm];split <;> omega
        haveI:Inhabited e.den:=⟨e.zero⟩
        have key:∀ i,i<len→∃ y:e.den,(∃ cs',w.cells? base (ad.add (i*P.cellsOf u)) (P.cellsOf u)=some cs'∧Holds w (fun _=>True) e y cs')∧e.Ok y:=by
          intro i hi
          obtain ⟨cs',h1,h2⟩:=hel i (by omega)
          obtain ⟨y,h3,h4⟩:=ih1 u n' cs' _ hte h2
          exact ⟨y,⟨cs',h1,h3⟩,h4⟩
        obtain ⟨f,hf⟩:=Deep.choose_lt key
        have hsp:0<len→ad.spot=none:=by
          intro h0
          obtain ⟨⟨cs',h1,h2⟩,_⟩:=hf 0 h0
          rw [hsz] at h1
          unfold World.cells? at h1
          split at h1
          case isFalse=>cases h1
          obtain ⟨q1,q2⟩:=mapM_cells _ _ h1
          have hlen:=h2.length
          have hpos:=e.size_pos
          have:=q2 0 0 _ (List.getElem?_range (by omega)) (List.getElem?_eq_getElem (show 0<cs'.length by omega))
          have h00:(ad.add (0*e.size)).add 0=ad:=by unfold Addr.add;simp
          rw [h00] at this
          unfold World.cell? at this
          split at this
          · cases hs:ad.spot with
            | none=>rfl
            | some s=>rw [hs] at this;simp at this
          · cases this
        refine ⟨(List.range len).map f,?_,?_⟩
        · refine ⟨some ad,cap,by simp,by simpa using hl,fun i hi=>?_⟩
          have hi':i<len:=by simpa using hi
          obtain ⟨⟨cs',h1,h2⟩,_⟩:=hf i hi'
          rw [hsz] at h1
          unfold World.cells? at h1
          split at h1
          case isFalse=>cases h1
          obtain ⟨q1,q2⟩:=mapM_cells _ _ h1
          have hlen:=h2.length
          have hcell:∀ j c,cs'[j]? = some c→w.cell? ((ad.add (i*e.size)).add j)=some c:=by
            intro j c hj
            have hlt:j<e.size:=by
              rw [← hlen]
              rcases Nat.lt_or_ge j cs'.length with g | g
              · exact g
              · rw [List.getElem?_eq_none g] at hj;cases hj
            exact q2 j j c (List.getElem?_range hlt) hj
          have hsp:=hsp (by omega)
          obtain ⟨blk,off,sp⟩:=ad
          simp only at hsp
          subst hsp
          refine ⟨blk,off,cs',rfl,trivial,?_,fun j c hj=>?_⟩
          · have:((List.range len).map f)[i]=f i:=by simp
            rw [this];exact h2
          · have:=hcell j c hj
            rw [add_none,add_none] at this
            exact this
        · refine ⟨by simp;omega,fun x hx=>?_⟩
          obtain ⟨i,hi,rfl⟩:=List.mem_map.mp hx
          exact (hf i (by simpa using hi)).2
    exact ⟨first,second (by intro a b e;cases e) first⟩
  | pair a b iha ihb =>
    intro hne
    simp only [Ty.noErr,Bool.and_eq_true] at hne
    obtain ⟨iha1,_⟩:=iha hne.1
    obtain ⟨_,ihb2⟩:=ihb hne.2
    refine ⟨fun t n cs x ht=>ht.elim,fun fs off n cs hf hr=>?_⟩
    simp only [TyF] at hf
    split at hf
    · next f g r =>
      obtain ⟨h1,⟨h2,_⟩,h3⟩:=hf
      have h2:TyOf P f.type a:=h2
      obtain ⟨x,hx⟩:=hr f (by simp)
      rw [h1,h2.cellsOf] at hx
      obtain ⟨y1,p1,p2⟩:=iha1 _ _ _ _ h2 hx
      obtain ⟨y2,q1,q2⟩:=ihb2 (g :: r) (off+a.size) n cs h3 fun f' hf'=>hr f' (List.mem_cons_of_mem _ hf')
      refine ⟨(y1,y2),⟨_,_,?_,p1,q1⟩,p2,q2⟩
      simp only [Ty.size]
      rw [List.take_add,List.drop_drop]
    · exact hf.elim
  | struct b ih =>
    intro hne
    obtain ⟨_,ih2⟩:=ih hne
    have first:∀ (t:TypeId) (n:Nat) (cs:List Value) (x:DataW H × List MemPlace),TyOf P t (.struct b)→DataW.trod enc P w base spare held n t cs=some x→∃ y:b.den,Holds w (fun _=>True) (.struct b) y cs∧Ty.Ok (.struct b) y:=by
      intro t n cs x ht h
      obtain ⟨⟨fs,hu,hfs⟩,hb⟩:=ht
      have hsz:P.cellsOf t=b.size:=TyOf.cellsOf (ty:=.struct b) ⟨⟨fs,hu,hfs⟩,hb⟩
      obtain ⟨xs,n',rfl,_,hl,hxl,hx⟩:=DataW.trod_struct hu h
      obtain ⟨y,h1,h2⟩:=ih2 fs.toList 0 n' cs hfs (by
        intro f hf
        obtain ⟨i,hi⟩:=List.getElem?_of_mem hf
        have hi':fs[i]? = some f:=by rw [← Array.getElem?_toList];exact hi
        have hlt:i<xs.length:=by
          rw [hxl]
          rcases Nat.lt_or_ge i fs.size with g | g
          · exact g
          · rw [Array.getElem?_eq_none g] at hi';cases hi'
        exact ⟨xs[i],by rw [hx i f hi',List.getElem?_eq_getElem hlt]⟩)
      refine ⟨y,?_,h2⟩
      rw [List.drop_zero,List.take_of_length_le (by omega)] at h1
      exact h1
    exact ⟨first,second (by intro a b e;cases e) first⟩
theorem read_val {r:Reach} {b0:Nat} {ty:Ty} (hn:ty.noErr=true) {t:TypeId} (ht:TyOf P t ty) {v:Value} {d:DataW H} {ps:List MemPlace} (hval:Value.okWide P w r b0 t v) (h:DataW.Trod enc P w base spare held t v d ps) :
    ∃ y:ty.den,ValHolds w (fun _=>True) ty y v∧ty.Ok y:=by
  obtain ⟨n,h⟩:=h
  obtain ⟨y,h1,h2⟩:=(read_ty ty hn).1 t n _ _ ht h
  refine ⟨y,?_,h2⟩
  unfold ValHolds
  cases ty with
  | int k=>obtain ⟨m,rfl⟩:=okWide_int ht.1 hval;exact h1
  | bool=>obtain ⟨m,rfl⟩:=okWide_bool ht.1 hval;exact h1
  | str=>obtain ⟨m,rfl⟩:=okWide_string ht.1 hval;exact h1
  | err=>cases hn
  | adr=>cases hn
  | slice e=>obtain ⟨⟨u,hu,_⟩,_⟩:=ht;obtain ⟨a,l,c,rfl⟩:=okWide_slice hu hval;exact h1
  | pair a b=>exact ht.elim
  | struct b =>
    obtain ⟨⟨fs,hu,_⟩,_⟩:=ht
    obtain ⟨cs,rfl,_⟩:=okWide_struct hu hval
    exact ⟨cs.toList,rfl,h1⟩
def okL:(ts:List Ty)→denL ts→Prop
  | [],_=>True
  | t :: ts,x=>t.Ok x.1∧okL ts x.2
theorem read_args {r:Reach} {b0:Nat}:∀ (tys:List Ty) (ts:List TypeId) (vs:List Value) (ds:List (DataW H)) (ps:List MemPlace),(∀ ty∈tys,ty.noErr=true)→All2 (fun t ty=>TyOf P t ty) ts tys →
    (∀ (j:Nat) (t:TypeId) (v:Value),ts[j]? = some t→vs[j]? = some v→Value.okWide P w r b0 t v)→DataW.TrodAll enc P w base spare held ts vs ds ps→∃ x:denL tys,ArgsHold w (fun _=>True) tys x vs∧okL tys x
  | [],[],vs,ds,ps,_,_,_,h=>by obtain ⟨rfl,_,_⟩:=trodAll_nil h;exact ⟨(),trivial,trivial⟩
  | [],_ :: _,_,_,_,_,h,_,_=>h.elim
  | _ :: _,[],_,_,_,_,h,_,_=>h.elim
  | ty :: tys,t :: ts,vs,ds,ps,hn,ht,hv,h=>by
    obtain ⟨v,vs',d,ds',p,q,rfl,rfl,rfl,h1,h2⟩:=trodAll_cons h
    obtain ⟨y,p1,p2⟩:=read_val (hn ty (by simp)) ht.1 (hv 0 t v rfl rfl) h1
    obtain ⟨ys,q1,q2⟩:=read_args tys ts vs' ds' q (fun ty' h'=>hn ty' (List.mem_cons_of_mem _ h')) ht.2 (fun j t' v' hj hj'=>hv (j+1) t' v' (by simpa using hj) (by simpa using hj')) h2
    exact ⟨(y,ys),⟨p1,q1⟩,p2,q2⟩
theorem again_args (hl:laidOutB P=true) {W W':World} (hb:Below W.heap.size W W'):∀ (ts:List TypeId) (vs:List Value) (ds:List (DataW H)) (ps:List MemPlace),(∀ t∈ts,P.readableRec t=true∧t<P.types.size)→(∀ p∈ps,p.block<W.heap.size) →
    DataW.TrodAll enc P W 0 (fun _=>true) true ts vs ds ps→DataW.TrodAll enc P W' 0 (fun b=>decide (b<W.heap.size)) true ts vs ds ps
  | [],vs,ds,ps,_,_,h=>by obtain ⟨rfl,rfl,rfl⟩:=trodAll_nil h;rfl
  | t :: ts,vs,ds,ps,hr,hlt,h=>by
    obtain ⟨v,vs',d,ds',p,q,rfl,rfl,rfl,h1,h2⟩:=trodAll_cons h
    have r:=hr t (by simp)
    refine ⟨p,q,WideElems.Trod_stays hl r.1 r.2 h1 (fun x hx=>hb.same (hlt x (List.mem_append_left _ hx))) (fun x hx=>by simpa using hlt x (List.mem_append_left _ hx)),?_,rfl⟩
    exact again_args hl hb ts vs' ds' q (fun t' h'=>hr t' (List.mem_cons_of_mem _ h')) (fun x hx=>hlt x (List.mem_append_right _ hx)) h2
end
theorem law_frame {C:Checked} {cx:Cx} {f:FuncId} {fn:Func} {s:ChangeSpec} {tys:List Ty} {sem:denL tys→Option Bool} {b:TypeId}
    (hf:C.prog.funcs[f]? = some fn) {G:World→Prop} (hok:CSpec.ok C.prog G f { params:=tys,res:=[(.bool,false)],fresh:=true,sem:=sem })
    (hn:(tys.all Ty.noErr)=true) (ht:All2 (fun t ty=>TyOf C.prog t ty) fn.params.toList tys) (hres:fn.resultTypes=#[b]) (hb:C.prog.underlying b=some .bool)
    (hl:laidOutB C.prog=true) (hr:∀ t∈fn.params.toList,C.prog.readableRec t=true∧t<C.prog.types.size) (hvars:s.vars=[])
    (hspec:∀ (H:Type) (ds:List (DataW H)),ds.length=tys.length→s.fn H ds={ results:=[.lit (.bool true)],args:=ds })
    (pure:∀ x:denL tys,okL tys x→sem x=some true)
    {H:Type} {enc:TypeId × Value→H} {W:World} {base:Nat} {args:Array Value} {ds gs:List (DataW H)} {before:List MemPlace}
    (hval:∀ (j:Nat) t v,fn.params[j]? = some t→args[j]? = some v→Value.okWide C.prog W .any base t v)
    (hW:DataW.Whole enc C.prog fn.params.toList s.vars false W args.toList ds gs before) (hG:G W) :
    Calls C.prog f args W fun e W'=>∃ v,e = .returned v∧s.post enc C.prog fn false true false false W args v W':=by
  have hlt:=hW.lt
  obtain ⟨p,q,hA,hV,rfl,hfz,hnd⟩:=hW
  have hW':DataW.Whole enc C.prog fn.params.toList s.vars false W args.toList ds gs (p++q):=⟨p,q,hA,hV,rfl,hfz,hnd⟩
  rw [hvars] at hV
  have hgs:gs=[]∧q=[]:=by cases gs <;> simp [DataW.TrodVars] at hV;exact ⟨rfl,hV⟩
  obtain ⟨rfl,rfl⟩:=hgs
  obtain ⟨x,hx,hxo⟩:=read_args tys fn.params.toList args.toList ds p (fun ty h=>List.all_eq_true.mp hn ty h) ht (fun j t v h1 h2=>hval j t v (by rw [← Array.getElem?_toList];exact h1) (by rw [← Array.getElem?_toList];exact h2)) hA
  have hc:=hok.calls W hG (fun _=>True) args.toList x true hx (pure x hxo)
  have hdl:ds.length=tys.length:=by
    have h1:ds.length=fn.params.toList.length:=trodAll_length hA
    rw [h1,ht.length]
  refine (show Calls C.prog f args W _ from hc).mono fun e W' he=>?_
  cases e with
  | panicked c=>exact he.elim
  | outgrown=>exact he.elim
  | returned v =>
    obtain ⟨hbel,vs,ms,rfl,hnew,hres',_⟩:=he
    have hv:vs=[.bool true]:=by
      cases vs with
      | nil=>simp only [ResHold] at hres'
      | cons v vs=>cases vs with
        | nil =>
          simp only [ResHold,ResHold1] at hres'
          have h2:([v]:List Value)=[Value.bool true]:=hres'.2
          exact h2
        | cons u us=>simp only [ResHold] at hres'
    subst hv
    refine ⟨_,rfl,ds,[],p++[],[],p,[],hW',?_,?_,?_,hbel.frame _,fun h=>by cases h⟩
    · rw [List.append_nil,hspec H ds hdl,hres]
      exact trodAll_mk1 (shut_bool hb true)
    · rw [List.append_nil,hspec H ds hdl]
      exact again_args hl hbel _ _ _ _ hr (fun x hx=>hlt x (List.mem_append_left _ hx)) hA
    · rw [hvars]
      rw [List.append_nil,hspec H ds hdl]
      rfl
where
  trodAll_length {H:Type} {enc:TypeId × Value→H} {P:Program} {w:World} {base:Nat} {spare:Nat→Bool} {held:Bool}:∀ {ts:List TypeId} {vs:List Value} {ds:List (DataW H)} {ps:List MemPlace},DataW.TrodAll enc P w base spare held ts vs ds ps→ds.length=ts.length
    | [],vs,ds,ps,h=>by obtain ⟨_,rfl,_⟩:=trodAll_nil h;rfl
    | t :: ts,vs,ds,ps,h=>by
      obtain ⟨v,vs',d,ds',p,q,rfl,rfl,rfl,h1,h2⟩:=trodAll_cons h
      simp [trodAll_length h2]
end Go.Proofs.YtnohkcklakipoaaGreatDoor.Ev
namespace Go.Proofs.YtnohkcklakipoaaGreatDoor.Ev
open Go Go.RowKit
set_option linter.unusedVariables false
set_option linter.unusedSimpArgs false
def valEq:Value→Value→Bool
  | .int k n,.int k' n'=>decide (k=k')&&decide (n=n')
  | .bool b,.bool b'=>b == b'
  | .string s,.string s'=>decide (s.data.toList=s'.data.toList)
  | .nilIface,.nilIface=>true
  | .pointer none,.pointer none=>true
  | .slice none m c,.slice none m' c'=>Nat.beq m m'&&Nat.beq c c'
  | _,_=>false
theorem valEq_sound {u v:Value} (h:valEq u v=true):u=v:=by
  unfold valEq at h
  split at h
  · simp only [Bool.and_eq_true,decide_eq_true_eq] at h;rw [h.1,h.2]
  · simp only [beq_iff_eq] at h;rw [h]
  · next s s' =>
    have h:=of_decide_eq_true h
    cases s;cases s'
    simp only at h
    rw [Array.ext' h]
  · rfl
  · rfl
  · simp only [Bool.and_eq_true,Nat.beq_eq] at h;rw [h.1,h.2]
  · cases h
def valsEq:List Value→List Value→Bool
  | [],[]=>true
  | u :: us,v :: vs=>valEq u v&&valsEq us vs
  | _,_=>false
theorem valsEq_sound:∀ {us vs:List Value},valsEq us vs=true→us=vs
  | [],[],_=>rfl
  | u :: us,v :: vs,h=>by
    simp only [valsEq,Bool.and_eq_true] at h
    rw [valEq_sound h.1,valsEq_sound h.2]
  | [],_ :: _,h=>by cases h
  | _ :: _,[],h=>by cases h
def zeroEq (z:Value) (ty:Ty):Bool :=
  match z with
  | .agg cs=>ty.isAgg&&valsEq cs.toList (zeroVals ty)
  | v=>!ty.isAgg&&valsEq [v] (zeroVals ty)
theorem zeroEq_sound {z:Value} {ty:Ty} (hp:∀ a b,ty ≠ .pair a b) (h:zeroEq z ty=true):z=zeroV ty:=by
  unfold zeroEq at h
  split at h
  · next cs =>
    simp only [Bool.and_eq_true] at h
    have h2:=valsEq_sound h.2
    cases ty <;> simp [Ty.isAgg] at h
    next b =>
    simp only [zeroV]
    rw [show zeroVals b=cs.toList from h2.symm]
  · simp only [Bool.and_eq_true,Bool.not_eq_true'] at h
    have h2:=valsEq_sound h.2
    cases ty with
    | pair a b=>exact absurd rfl (hp a b)
    | struct b=>simp [Ty.isAgg] at h
    | int k=>simp only [zeroVals,List.cons.injEq,and_true] at h2;exact h2
    | bool=>simp only [zeroVals,List.cons.injEq,and_true] at h2;exact h2
    | str=>simp only [zeroVals,List.cons.injEq,and_true] at h2;exact h2
    | err=>simp only [zeroVals,List.cons.injEq,and_true] at h2;exact h2
    | adr=>simp only [zeroVals,List.cons.injEq,and_true] at h2;exact h2
    | slice e=>simp only [zeroVals,List.cons.injEq,and_true] at h2;exact h2
def basicB (P:Program) (t:TypeId) (ty:Ty):Bool :=
  match P.info? t with
  | some i=>Nat.beq i.size ty.size&&Nat.ble i.bytes 4096&&(match i.zero with | some z=>zeroEq z ty | none=>false)
  | none=>false
theorem basicB_sound {P:Program} {t:TypeId} {ty:Ty} (hp:∀ a b,ty ≠ .pair a b) (h:basicB P t ty=true):Basic P t ty.size (zeroV ty):=by
  unfold basicB at h
  split at h
  case h_2=>cases h
  next i hi =>
  simp only [Bool.and_eq_true,Nat.beq_eq] at h
  obtain ⟨⟨h1,h2⟩,h3⟩:=h
  split at h3
  case h_2=>cases h3
  next z hz=>exact ⟨i,hi,h1,Nat.le_of_ble_eq_true h2,by rw [hz,zeroEq_sound hp h3]⟩
def lastB (f:TypeId→Bool) (fs:List Field) (off:Nat):Bool :=
  match fs with
  | [g]=>Nat.beq g.offset off&&f g.type && !decide (g.name = "_")
  | _=>false
theorem lastB_sound {f:TypeId→Bool} {F:TypeId→Prop} (hf:∀ t,f t=true→F t) {fs:List Field} {off:Nat} (h:lastB f fs off=true):lastField F fs off:=by
  unfold lastB at h
  split at h
  · next g =>
    simp only [Bool.and_eq_true,Nat.beq_eq,Bool.not_eq_true',decide_eq_false_iff_not] at h
    exact ⟨h.1.1,hf _ h.1.2,h.2⟩
  · cases h
def tyB (P:Program):Ty→(TypeId→Bool) × (List Field→Nat→Bool)
  | .int k=>(fun t=>(match P.underlying t with | some (.int k')=>decide (k=k') | _=>false)&&basicB P t (.int k),lastB fun t=>(match P.underlying t with | some (.int k')=>decide (k=k') | _=>false)&&basicB P t (.int k))
  | .bool=>(fun t=>(match P.underlying t with | some .bool=>true | _=>false)&&basicB P t .bool,lastB fun t=>(match P.underlying t with | some .bool=>true | _=>false)&&basicB P t .bool)
  | .str=>(fun t=>(match P.underlying t with | some .string=>true | _=>false)&&basicB P t .str,lastB fun t=>(match P.underlying t with | some .string=>true | _=>false)&&basicB P t .str)
  | .err=>(fun t=>(match P.underlying t with | some (.interface _)=>true | _=>false)&&basicB P t .err,lastB fun t=>(match P.underlying t with | some (.interface _)=>true | _=>false)&&basicB P t .err)
  | .adr=>(fun t=>(match P.underlying t with | some (.pointer _)=>true | _=>false)&&basicB P t .adr,lastB fun t=>(match P.underlying t with | some (.pointer _)=>true | _=>false)&&basicB P t .adr)
  | .slice e=>(fun t=>(match P.underlying t with | some (.slice u)=>(tyB P e).1 u | _=>false)&&basicB P t (.slice e),lastB fun t=>(match P.underlying t with | some (.slice u)=>(tyB P e).1 u | _=>false)&&basicB P t (.slice e))
  | .pair a b=>(fun _=>false,fun fs off=>match fs with
    | f :: g :: r=>Nat.beq f.offset off&&((tyB P a).1 f.type && !decide (f.name = "_"))&&(tyB P b).2 (g :: r) (off+a.size)
    | _=>false)
  | .struct b=>(fun t=>(match P.underlying t with | some (.struct fs)=>(tyB P b).2 fs.toList 0 | _=>false)&&basicB P t (.struct b),
      lastB fun t=>(match P.underlying t with | some (.struct fs)=>(tyB P b).2 fs.toList 0 | _=>false)&&basicB P t (.struct b))
theorem tyB_sound {P:Program}:∀ ty:Ty,(∀ t,(tyB P ty).1 t=true→(TyF P ty).1 t)∧(∀ fs off,(tyB P ty).2 fs off=true→(TyF P ty).2 fs off):=by
  intro ty
  induction ty with
  | int k =>
    have first:∀ t,(tyB P (.int k)).1 t=true→(TyF P (.int k)).1 t:=by
      intro t h
      simp only [tyB,Bool.and_eq_true] at h
      have hb:=basicB_sound (by intro a b e;cases e) h.2
      replace h:=h.1
      split at h
      · next k' hk=>have e:=of_decide_eq_true h;subst e;exact ⟨hk,hb⟩
      · cases h
    exact ⟨first,fun fs off h=>lastB_sound (F:=(TyF P (.int k)).1) first h⟩
  | bool =>
    have first:∀ t,(tyB P .bool).1 t=true→(TyF P .bool).1 t:=by
      intro t h
      simp only [tyB,Bool.and_eq_true] at h
      have hb:=basicB_sound (by intro a b e;cases e) h.2
      replace h:=h.1
      split at h
      · next hk=>exact ⟨hk,hb⟩
      · cases h
    exact ⟨first,fun fs off h=>lastB_sound (F:=(TyF P .bool).1) first h⟩
  | str =>
    have first:∀ t,(tyB P .str).1 t=true→(TyF P .str).1 t:=by
      intro t h
      simp only [tyB,Bool.and_eq_true] at h
      have hb:=basicB_sound (by intro a b e;cases e) h.2
      replace h:=h.1
      split at h
      · next hk=>exact ⟨hk,hb⟩
      · cases h
    exact ⟨first,fun fs off h=>lastB_sound (F:=(TyF P .str).1) first h⟩
  | err =>
    have first:∀ t,(tyB P .err).1 t=true→(TyF P .err).1 t:=by
      intro t h
      simp only [tyB,Bool.and_eq_true] at h
      have hb:=basicB_sound (by intro a b e;cases e) h.2
      replace h:=h.1
      split at h
      · next ms hk=>exact ⟨⟨ms,hk⟩,hb⟩
      · cases h
    exact ⟨first,fun fs off h=>lastB_sound (F:=(TyF P .err).1) first h⟩
  | adr =>
    have first:∀ t,(tyB P .adr).1 t=true→(TyF P .adr).1 t:=by
      intro t h
      simp only [tyB,Bool.and_eq_true] at h
      have hb:=basicB_sound (by intro a b e;cases e) h.2
      replace h:=h.1
      split at h
      · next ms hk=>exact ⟨⟨ms,hk⟩,hb⟩
      · cases h
    exact ⟨first,fun fs off h=>lastB_sound (F:=(TyF P .adr).1) first h⟩
  | slice e ih =>
    have first:∀ t,(tyB P (.slice e)).1 t=true→(TyF P (.slice e)).1 t:=by
      intro t h
      simp only [tyB,Bool.and_eq_true] at h
      have hb:=basicB_sound (by intro a b e;cases e) h.2
      replace h:=h.1
      split at h
      · next u hk=>exact ⟨⟨u,hk,ih.1 u h⟩,hb⟩
      · cases h
    exact ⟨first,fun fs off h=>lastB_sound (F:=(TyF P (.slice e)).1) first h⟩
  | pair a b iha ihb =>
    refine ⟨fun t h=>by simp [tyB] at h,fun fs off h=>?_⟩
    simp only [tyB] at h
    split at h
    · next f g r =>
      simp only [Bool.and_eq_true,Nat.beq_eq,Bool.not_eq_true',decide_eq_false_iff_not] at h
      exact ⟨h.1.1,⟨iha.1 _ h.1.2.1,h.1.2.2⟩,ihb.2 _ _ h.2⟩
    · cases h
  | struct b ih =>
    have first:∀ t,(tyB P (.struct b)).1 t=true→(TyF P (.struct b)).1 t:=by
      intro t h
      simp only [tyB,Bool.and_eq_true] at h
      have hb:=basicB_sound (by intro a b e;cases e) h.2
      replace h:=h.1
      split at h
      · next fs hk=>exact ⟨⟨fs,hk,ih.2 _ _ h⟩,hb⟩
      · cases h
    exact ⟨first,fun fs off h=>lastB_sound (F:=(TyF P (.struct b)).1) first h⟩
def look {α:Type}:List (Nat × α)→Nat→Option α
  | [],_=>none
  | (g,x) :: r,f=>bif Nat.beq g f then some x else look r f
theorem look_mem {α:Type}:∀ (l:List (Nat × α)) (f:Nat) (x:α),look l f=some x→(f,x)∈l
  | [],_,_,h=>by cases h
  | (g,y) :: r,f,x,h=>by
    simp only [look] at h
    cases hg:Nat.beq g f with
    | true =>
      rw [hg] at h
      cases h
      have:=Nat.eq_of_beq_eq_true hg
      subst this
      exact List.mem_cons_self ..
    | false=>rw [hg] at h;exact List.mem_cons_of_mem _ (look_mem r f x h)
structure Tabs where
  ty:List (Nat × Ty)
  cmp:List Nat
  body:List (Nat × Func)
  keep:List Nat→Nat→Keep
  k:Nat
def Tabs.cx (T:Tabs) (calls:List (Nat × CSpec)):Cx where
  ty:=look T.ty
  cmp:=fun t=>T.cmp.contains t
  body:=look T.body
  call:=look calls
  keep:=T.keep
  k:=T.k
def bodiesOk (P:Program):List (Nat × Func)→Prop
  | []=>True
  | (f,fn) :: r=>(P.funcs[f]? = some fn∧(decide (fn.name = "runtime.NumGoroutine"))=false∧fn.body.isSome=true)∧bodiesOk P r
structure Tabs.ok (P:Program) (T:Tabs):Prop where
  ty:(T.ty.all fun p=>(tyB P p.2).1 p.1)=true
  cmp:(T.cmp.all fun t=>!P.stoodInHeld t && !P.eqGuardType P.depth t)=true
  body:bodiesOk P T.body
  mixed:P.follows .mixedOrders=true
theorem bodiesOk_get {P:Program}:∀ (l:List (Nat × Func)),bodiesOk P l→∀ f fn,(f,fn)∈l→P.funcs[f]? = some fn∧fn.name ≠ "runtime.NumGoroutine" ∧ fn.body.isSome=true
  | [],_,f,fn,h=>by simp at h
  | (g,gn) :: r,ho,f,fn,h=>by
    rcases List.mem_cons.mp h with e | h
    · cases e
      exact ⟨ho.1.1,of_decide_eq_false ho.1.2.1,ho.1.2.2⟩
    · exact bodiesOk_get r ho.2 f fn h
theorem Tabs.cx_ok {P:Program} {T:Tabs} (h:T.ok P) (calls:List (Nat × CSpec)):(T.cx calls).ok P:=by
  refine ⟨fun t ty ht=>?_,fun t ht=>?_,fun f fn hf=>bodiesOk_get _ h.body f fn (look_mem _ _ _ hf),h.mixed⟩
  · exact (tyB_sound ty).1 t (List.all_eq_true.mp h.ty _ (look_mem _ _ _ ht))
  · have hm:t∈T.cmp:=by simpa [Tabs.cx] using ht
    have:=List.all_eq_true.mp h.cmp t hm
    simpa using this
def Lasts (G:World→Prop):Prop:=∀ w w':World,G w→Below w.heap.size w w'→G w'
def callsOk (P:Program) (G:World→Prop):List (Nat × CSpec)→Prop
  | []=>True
  | (f,s) :: r=>s.ok P G f∧callsOk P G r
theorem callsOk_get {P:Program} {G:World→Prop}:∀ (l:List (Nat × CSpec)),callsOk P G l→∀ f s,(f,s)∈l→s.ok P G f
  | [],_,f,s,h=>by simp at h
  | (g,gs) :: r,ho,f,s,h=>by
    rcases List.mem_cons.mp h with e | h
    · cases e;exact ho.1
    · exact callsOk_get r ho.2 f s h
theorem Tabs.good {P:Program} {T:Tabs} (h:T.ok P) {G:World→Prop} (hG:Lasts G) {calls:List (Nat × CSpec)} (hc:callsOk P G calls):(T.cx calls).good P G :=
  ⟨T.cx_ok h calls,fun f s hs=>callsOk_get _ hc f s (look_mem _ _ _ hs),fun f s hs=>(by cases hs),fun f s hs=>(by cases hs),hG⟩
theorem fn_ok {P:Program} {T:Tabs} (h:T.ok P) {G:World→Prop} (hG:Lasts G) {calls:List (Nat × CSpec)} (hc:callsOk P G calls) (d:Nat) {f:FuncId} {fn:Func} (hf:look T.body f=some fn) (s:CSpec) (hs:evFn (T.cx calls) d fn s.params s.res s.fresh=s.sem):s.ok P G f :=
  evFn_ok (T.good h hG hc) d hf s fun x r hr=>by rw [hs];exact hr
def since (W w:World):Prop:=W.heap.size≤w.heap.size∧Below W.heap.size W w
theorem since.lasts (W:World):Lasts (since W):=fun _ _ h hb=>⟨Nat.le_trans h.1 hb.size,h.2.trans (hb.mono h.1)⟩
theorem since.refl (W:World):since W W:=⟨Nat.le_refl _,Below.refl _ _⟩
end Go.Proofs.YtnohkcklakipoaaGreatDoor.Ev
set_option linter.unusedVariables false
namespace Go.Proofs.YtnohkcklakipoaaGreatDoor.Ev
open Go Go.RowKit Go.Proofs
theorem fill_ok {P:Program} {T:Tabs} (h:T.ok P) {G:World→Prop} (hG:Lasts G) {calls:List (Nat × CSpec)} (hc:callsOk P G calls) (d hs:Nat) (dIx:Tmp) {f:FuncId} {fn:Func} (hf:look T.body f=some fn) (s:CSpec) (he:evFill (T.cx calls) d hs dIx fn s.params s.res s.fresh=s.sem):s.ok P G f :=
  evFill_ok (T.good h hG hc) d hs dIx hf s fun x r hr=>by rw [he];exact hr
end Go.Proofs.YtnohkcklakipoaaGreatDoor.Ev
namespace Go.Proofs.YtnohkcklakipoaaGreatDoor.Ev
open Go Go.RowKit
set_option linter.unusedVariables false
set_option linter.unusedSimpArgs false
section
variable {P:Program} {cx:Cx} {E:Env} {w0 w:World} {μ:Lie} {st:St} {a:Act} {bl:List Blk}
end
def Tabs.cxp (T:Tabs) (calls:List (Nat × CSpec)) (ptrs:List (Nat × PSpec)) (rows:List (Nat × RSpec):=[]) (swap:Bool:=false):Cx where
  ty:=look T.ty
  cmp:=fun t=>T.cmp.contains t
  body:=look T.body
  call:=look calls
  keep:=T.keep
  k:=T.k
  ptr:=look ptrs
  row:=look rows
  swap:=swap
def ptrsOk (P:Program) (G:World→Prop):List (Nat × PSpec)→Prop
  | []=>True
  | (f,s) :: r=>s.ok P G f∧ptrsOk P G r
theorem ptrsOk_get {P:Program} {G:World→Prop}:∀ (l:List (Nat × PSpec)),ptrsOk P G l→∀ f s,(f,s)∈l→s.ok P G f
  | [],_,f,s,h=>by simp at h
  | (g,gs) :: r,ho,f,s,h=>by
    rcases List.mem_cons.mp h with e | h
    · cases e;exact ho.1
    · exact ptrsOk_get r ho.2 f s h
def rowsOk (P:Program) (G:World→Prop):List (Nat × RSpec)→Prop
  | []=>True
  | (f,s) :: r=>s.ok P G f∧rowsOk P G r
theorem rowsOk_get {P:Program} {G:World→Prop}:∀ (l:List (Nat × RSpec)),rowsOk P G l→∀ f s,(f,s)∈l→s.ok P G f
  | [],_,f,s,h=>by simp at h
  | (g,gs) :: r,ho,f,s,h=>by
    rcases List.mem_cons.mp h with e | h
    · cases e;exact ho.1
    · exact rowsOk_get r ho.2 f s h
theorem Tabs.goodp {P:Program} {T:Tabs} (h:T.ok P) {G:World→Prop} (hG:Lasts G) {calls:List (Nat × CSpec)} (hc:callsOk P G calls) {ptrs:List (Nat × PSpec)} (hp:ptrsOk P G ptrs) {rows:List (Nat × RSpec)} (hr:rowsOk P G rows) (swap:Bool):(T.cxp calls ptrs rows swap).good P G:=by
  have h0:=T.cx_ok h calls
  exact ⟨⟨h0.ty,h0.cmp,h0.body,h0.mixed⟩,fun f s hs=>callsOk_get _ hc f s (look_mem _ _ _ hs),fun f s hs=>ptrsOk_get _ hp f s (look_mem _ _ _ hs),fun f s hs=>rowsOk_get _ hr f s (look_mem _ _ _ hs),hG⟩
theorem fnp_ok {P:Program} {T:Tabs} (h:T.ok P) {G:World→Prop} (hG:Lasts G) {calls:List (Nat × CSpec)} (hc:callsOk P G calls) {ptrs:List (Nat × PSpec)} (hp:ptrsOk P G ptrs) {rows:List (Nat × RSpec)} (hr:rowsOk P G rows) (swap:Bool) (d:Nat) {f:FuncId} {fn:Func} (hf:look T.body f=some fn) (s:CSpec) (hs:evFn (T.cxp calls ptrs rows swap) d fn s.params s.res s.fresh=s.sem):s.ok P G f :=
  evFn_ok (T.goodp h hG hc hp hr swap) d hf s fun x r hr=>by rw [hs];exact hr
end Go.Proofs.YtnohkcklakipoaaGreatDoor.Ev
namespace Go.Proofs.YtnohkcklakipoaaGreatDoor.Pl
open Go Go.RowKit Go.Proofs.YtnohkcklakipoaaGreatDoor.Ev
set_option linter.unusedVariables false
set_option linter.unusedSimpArgs false
abbrev big:Nat:=1048576
abbrev fuel:Nat:=2097152
end Go.Proofs.YtnohkcklakipoaaGreatDoor.Pl
set_option linter.unusedVariables false
set_option linter.unusedSimpArgs false
namespace Go.Proofs.YtnohkcklakipoaaGreatDoor.Ev
open Go Go.RowKit Go.Proofs
end Go.Proofs.YtnohkcklakipoaaGreatDoor.Ev
set_option linter.unusedVariables false
set_option linter.unusedSimpArgs false
namespace Go.Proofs.YtnohkcklakipoaaGreatDoor.Ev
open Go Go.RowKit Go.Proofs
theorem det_any {P:Program} {ops:Array Oper} (back:∀ (i:Nat) (o:Oper),ops.toList[i]? = some o→∀ e∈edges o,e<i) (plain:∀ (i:Nat) (o:Oper),ops.toList[i]? = some o→o.guard=none)
    (Inv:(Nat→Bool)→Act→World→Prop)
    (step:∀ (L:Nat→Bool) (a:Act) (w:World) (i:Nat) (o:Oper),Inv L a w→ops.toList[i]? = some o→L i=false→(∀ j∈edges o,L j=true)→∃ v w',(execOp a.eval o).run P w = .ok (.value v) w'∧Inv (fun j=>L j||j == i) (a.put o.dst v) w')
    {Q:Exit→Act→World→Prop} (done:∀ (L:Nat→Bool) (a:Act) (w:World),(∀ j,j<ops.size→L j=true)→Inv L a w→Q .normal a w) :
    ∀ (fuel:Nat) (listed:Array Bool) (a:Act) (w:World),listed.size=ops.size→(unlisted ops.size listed).length≤fuel→Inv (fun j=>listed.getD j false) a w→wpAny P .any ops Q fuel listed a w:=by
  have all:∀ (listed:Array Bool),listed.size=ops.size→Region.ready .any ops listed=[]→∀ j,j<ops.size→listed.getD j false=true:=by
    intro listed hn hr j
    induction j using Nat.strongRecOn with
    | _ j ih =>
      intro hj
      cases hl:listed.getD j false with
      | true=>rfl
      | false =>
        exfalso
        have hoj:ops.toList[j]? = some ops[j]:=by rw [Array.getElem?_toList];exact Array.getElem?_eq_getElem hj
        have:j∈Region.ready .any ops listed:=(ready_iff hn).mpr ⟨_,hoj,hl,fun e he=>ih e (back j _ hoj e he) (by have:=back j _ hoj e he;omega)⟩
        rw [hr] at this
        cases this
  intro fuel
  induction fuel with
  | zero =>
    intro listed a w hn hc hi
    have hnil:unlisted ops.size listed=[]:=List.eq_nil_of_length_eq_zero (by omega)
    have hall:∀ j,j<ops.size→listed.getD j false=true:=by
      intro j hj
      unfold unlisted at hnil
      rw [List.filter_eq_nil_iff] at hnil
      have:=hnil j (by simpa using hj)
      rw [getD_true (by omega)] at this
      simpa using this
    refine ⟨?_,done _ a w hall hi⟩
    cases hr:Region.ready .any ops listed with
    | nil=>rfl
    | cons i r =>
      have:i∈Region.ready .any ops listed:=by rw [hr];exact List.mem_cons_self ..
      obtain ⟨o,ho,hl,_⟩:=(ready_iff hn).mp this
      have hin:i<ops.size:=by have:=lt_get ho;simpa using this
      rw [hall i hin] at hl
      cases hl
  | succ fuel ih =>
    intro listed a w hn hc hi
    refine ⟨fun hr=>done _ a w (all listed hn hr) hi,fun i hir=>?_⟩
    obtain ⟨o,ho,hl,hdep⟩:=(ready_iff hn).mp hir
    have hin:i<ops.size:=by have:=lt_get ho;simpa using this
    have ho':ops[i]? = some o:=by rw [← Array.getElem?_toList];exact ho
    obtain ⟨v,w',hrun,hi'⟩:=step _ a w i o hi ho hl hdep
    have hw:Region.wanted o (yielded ops a.tmps)=true:=by unfold Region.wanted;rw [plain i o ho]
    unfold wpOp
    simp only [ho']
    rw [if_pos hw]
    refine Or.inl ?_
    unfold Oper.wp
    rw [hrun]
    refine ih (listed.setIfInBounds i true) _ w' (by simpa using hn) ?_ ?_
    · have:=unlisted_less hn hin (by rw [getD_true (by omega)];exact hl)
      omega
    · have e:(fun j=>(listed.setIfInBounds i true).getD j false)=fun j=>listed.getD j false||j == i:=by
        funext j
        exact getD_set hn hin j
      rw [e]
      exact hi'
theorem det_region {P:Program} (hm:P.follows .mixedOrders=true) {id:Nat} {ops:Array Oper} (back:∀ (i:Nat) (o:Oper),ops.toList[i]? = some o→∀ e∈edges o,e<i) (plain:∀ (i:Nat) (o:Oper),ops.toList[i]? = some o→o.guard=none)
    (Inv:(Nat→Bool)→Act→World→Prop)
    (step:∀ (L:Nat→Bool) (a:Act) (w:World) (i:Nat) (o:Oper),Inv L a w→ops.toList[i]? = some o→L i=false→(∀ j∈edges o,L j=true)→∃ v w',(execOp a.eval o).run P w = .ok (.value v) w'∧Inv (fun j=>L j||j == i) (a.put o.dst v) w')
    {Q:Exit→Act→World→Prop} (done:∀ (L:Nat→Bool) (a:Act) (w:World),(∀ j,j<ops.size→L j=true)→Inv L a w→Q .normal a w)
    {a:Act} {w:World} (start:Inv (fun _=>false) a { w with drawn:=w.drawn+1 }):(Code.region id ops true).wp P Q a w:=by
  refine wp_region_any hm (det_any back plain Inv step done _ _ a _ (by simp) ?_ ?_)
  · unfold unlisted
    exact Nat.le_trans (List.length_filter_le _ _) (by simp)
  · have e:(fun j=>(Array.replicate ops.size false).getD j false)=fun _=>false:=by
      funext j
      rw [Array.getD_eq_getD_getElem?,Array.getElem?_replicate]
      split <;> rfl
    rw [e]
    exact start
end Go.Proofs.YtnohkcklakipoaaGreatDoor.Ev
set_option linter.unusedVariables false
set_option linter.unusedSimpArgs false
set_option maxRecDepth 100000
namespace Go.Proofs.YtnohkcklakipoaaGreatDoor.Ev
open Go Go.RowKit Go.Proofs
abbrev tv (a:Act) (t:Nat):Value:=a.tmps.getD t undef
theorem tv_same {a:Act} {d:Nat} {v:Value} (h:d<a.tmps.size):tv (a.put (some d) v) d=v:=by
  show (a.tmps.setIfInBounds d v).getD d undef=v
  rw [Array.getD_eq_getD_getElem?,Array.getElem?_setIfInBounds_self,if_pos h];rfl
theorem tv_other {a:Act} {d t:Nat} {v:Value} (h:d≠t):tv (a.put (some d) v) t=tv a t:=by
  show (a.tmps.setIfInBounds d v).getD t undef=a.tmps.getD t undef
  rw [Array.getD_eq_getD_getElem?,Array.getD_eq_getD_getElem?,Array.getElem?_setIfInBounds_ne h]
theorem tput_size (a:Act) (d:Nat) (v:Value):(a.put (some d) v).tmps.size=a.tmps.size:=by
  show (a.tmps.setIfInBounds d v).size=_
  simp
theorem seq_step {P:Program} {ops:Array Oper} {Q:Exit→Act→World→Prop} {i d:Nat} {tl:List Nat} {a:Act} {w w':World} {o:Oper} {v:Value} (ho:ops.toList[i]? = some o) (hg:o.guard=none) (hd:o.dst=some d)
    (hrun:(execOp a.eval o).run P w = .ok (.value v) w') (h:wpOps P ops Q tl (a.put (some d) v) w'):wpOps P ops Q (i :: tl) a w:=by
  have ho':ops[i]? = some o:=by rw [← Array.getElem?_toList];exact ho
  have hw:Region.wanted o (yielded ops a.tmps)=true:=by unfold Region.wanted;rw [hg]
  unfold wpOps
  simp only [ho']
  rw [if_pos hw]
  refine Or.inl ?_
  unfold Oper.wp
  rw [hrun]
  show wpOps P ops Q tl (a.put o.dst v) w'
  rw [hd];exact h
def opOf (o:Oper):Option Tmp × Op × Option (Nat × Bool):=(o.dst,o.op,o.guard)
theorem op_get {ops:Array Oper} {l:List (Option Tmp × Op × Option (Nat × Bool))} (h:ops.toList.map opOf=l) {i:Nat} {d:Option Tmp} {p:Op} {g:Option (Nat × Bool)} (hi:l[i]? = some (d,p,g)):∃ o,ops.toList[i]? = some o∧o.dst=d∧o.op=p∧o.guard=g:=by
  rw [← h,List.getElem?_map] at hi
  obtain ⟨o,h1,h2⟩:=Option.map_eq_some_iff.mp hi
  unfold opOf at h2
  simp only [Prod.mk.injEq] at h2
  exact ⟨o,h1,h2.1,h2.2.1,h2.2.2⟩
def len_of (tS:TypeId) (t:Tmp):Op:=.call (.mk (.builtin .len) #[.tmp t] #[tS])
structure RepAt (w:World) (k:Nat) (vty:TypeId) (fz:Nat × Nat) (size sz m:Nat) (cs:List Value) (w':World) (V:Array Value):Prop where
  os:w'.os=w.os
  tape:w'.tape=w.tape
  output:w'.output=w.output
  hsz:w'.heap.size=w.heap.size
  other:∀ j,j≠k→w'.heap[j]? = w.heap[j]?
  row:w'.heap[k]? = some (.cells V vty fz)
  len:V.size=size
  cells:∀ j,j<m*sz→V.toList[j]? = cs[j % sz]?
theorem RepAt.drawn {w:World} {k:Nat} {vty:TypeId} {fz:Nat × Nat} {size sz m:Nat} {cs:List Value} {w':World} {V:Array Value} (h:RepAt w k vty fz size sz m cs w' V) (d:Nat):RepAt w k vty fz size sz m cs { w' with drawn:=d } V :=
  ⟨h.os,h.tape,h.output,h.hsz,h.other,h.row,h.len,h.cells⟩
section
variable {P:Program} {cx:Cx} {tS tI elem:TypeId} {e:Ty} {w:World} {k n cap:Nat} {vty:TypeId} {fz:Nat × Nat} {cs:List Value} {size:Nat}
theorem run_move {o:Oper} {a:Act} {w:World} {x:Operand} (h:o.op = .move x∨o.op = .assign x):(execOp a.eval o).run P w = .ok (.value (a.eval x)) w:=by
  unfold execOp
  rcases h with h | h <;> simp only [h] <;> rfl
theorem run_len {o:Oper} {a:Act} {w:World} {t:Tmp} (h:o.op=len_of tS t) (hu:P.underlying tS=some (.slice elem)) {ad:Option Addr} {n c:Nat} (hv:tv a t = .slice ad n c):(execOp a.eval o).run P w = .ok (.value (.int .i64 n)) w:=by
  have hv':a.eval (.tmp t) = .slice ad n c:=hv
  unfold execOp
  simp only [h,len_of]
  simp [resolve,invoke,builtin,Builtin.len_,run_underlying hu,hv',goInt]
theorem run_bin {o:Oper} {a:Act} {w:World} {op:BinOp} {t t':TypeId} {x y:Operand} (h:o.op = .binOp op t x y t') {k:IntKind} {m n:Int} (hx:a.eval x = .int k m) (hy:a.eval y = .int k n) {v:Value} (hv:(binOp op t (.int k m) (.int k n)).run P w = .ok v w):(execOp a.eval o).run P w = .ok (.value v) w:=by
  unfold execOp
  simp only [h]
  refine runsTo_of ?_
  rw [hx,hy]
  refine run_then (x:=()) ?_ hv
  unfold eqGuard
  split <;> rfl
end
end Go.Proofs.YtnohkcklakipoaaGreatDoor.Ev
set_option linter.unusedVariables false
set_option linter.unusedSimpArgs false
set_option maxRecDepth 100000
namespace Go.Proofs.YtnohkcklakipoaaGreatDoor.Ev
open Go Go.RowKit Go.Proofs
structure RepCode where
  c0:Code
  c1:Code
  c2:Code
  c3:Code
  c4:Code
  i7:Nat
  ops7:Array Oper
  i8:Nat
  ops8:Array Oper
  i9:Nat
  ops9:Array Oper
  i10:Nat
  ops10:Array Oper
def RepCode.code (c:RepCode):Code:=.seq c.c0 (.seq c.c1 (.seq c.c2 (.seq c.c3 (.seq c.c4 (.seq (.region c.i7 c.ops7 false) (.seq (.block 0 (.loop (.seq (.seq (.region c.i8 c.ops8 false) (.cond (.tmp 37) .skip (.exit 0))) (.block 1 (.region c.i9 c.ops9 true))))) (.seq (.region c.i10 c.ops10 false) .ret)))))))
end Go.Proofs.YtnohkcklakipoaaGreatDoor.Ev
set_option linter.unusedVariables false
set_option linter.unusedSimpArgs false
set_option maxRecDepth 100000
namespace Go.Proofs.YtnohkcklakipoaaGreatDoor.Ev
open Go Go.RowKit Go.Proofs
theorem nodup_get {α:Type}:∀ {l:List α},l.Nodup→∀ {i j:Nat} {d:α},l[i]? = some d→l[j]? = some d→i=j
  | [],_,i,j,d,h,_=>by simp at h
  | x :: l,hn,i,j,d,hi,hj=>by
    rw [List.nodup_cons] at hn
    cases i with
    | zero =>
      cases j with
      | zero=>rfl
      | succ j =>
        simp only [List.getElem?_cons_zero,Option.some.injEq] at hi
        subst hi
        exact absurd (List.mem_of_getElem? (by simpa using hj)) hn.1
    | succ i =>
      cases j with
      | zero =>
        simp only [List.getElem?_cons_zero,Option.some.injEq] at hj
        subst hj
        exact absurd (List.mem_of_getElem? (by simpa using hi)) hn.1
      | succ j=>exact congrArg (· + 1) (nodup_get hn.2 (i:=i) (j:=j) (d:=d) (by simpa using hi) (by simpa using hj))
structure Tab (ops:Array Oper) (dsts:List Nat) (vals:List Value) (N wc:Nat) (a0:Act) (w2 w3:World) (L:Nat→Bool) (a:Act) (w:World):Prop where
  defers:a.defers=[]
  size:a.tmps.size=N
  old:∀ t,(∀ i,dsts[i]? = some t→L i=false)→tv a t=tv a0 t
  new:∀ i d,dsts[i]? = some d→L i=true→tv a d=vals.getD i undef
  world:w=if L wc then w3 else w2
  closed:∀ i o,ops.toList[i]? = some o→L i=true→∀ e∈edges o,L e=true
theorem tab_region {P:Program} (hm:P.follows .mixedOrders=true) {id:Nat} {ops:Array Oper} {l:List (Option Tmp × Op × Option (Nat × Bool))} {es:List (List Nat)} (hops:ops.toList.map opOf=l) (hes:ops.toList.map edges=es) {dsts:List Nat} {vals:List Value} {N wc:Nat}
    (hl:l.map (·.1)=dsts.map some) (hg:(l.all fun p=>p.2.2.isNone)=true) (hb:(allFrom (fun i e=>e.all fun x=>Nat.blt x i) es 0)=true) (hd:dsts.Nodup) (hN:∀ d∈dsts,d<N)
    {a0:Act} {w2 w3:World} (h0:a0.defers=[]) (hs:a0.tmps.size=N) {w:World} (hw2:w2={ w with drawn:=w.drawn+1 })
    (run:∀ (L:Nat→Bool) (a:Act) (w:World) (i:Nat) (p:Op) (e:List Nat) (o:Oper),Tab ops dsts vals N wc a0 w2 w3 L a w→ops.toList[i]? = some o→o.op=p→(l.map (·.2.1))[i]? = some p→es[i]? = some e→L i=false→(∀ j∈e,L j=true)→(∀ i',L i'=true→∀ e',es[i']? = some e'→∀ j∈e',L j=true) →
      (execOp a.eval o).run P w = .ok (.value (vals.getD i undef)) (if i=wc then w3 else w))
    {Q:Exit→Act→World→Prop} (done:∀ (L:Nat→Bool) (a:Act) (w:World),(∀ j,j<dsts.length→L j=true)→Tab ops dsts vals N wc a0 w2 w3 L a w→Q .normal a w):(Code.region id ops true).wp P Q a0 w:=by
  have hlen:ops.size=dsts.length:=by
    have h1:=congrArg List.length hops
    have h2:=congrArg List.length hl
    simp at h1 h2
    omega
  have get:∀ (i:Nat) (o:Oper),ops.toList[i]? = some o→l[i]? = some (opOf o)∧es[i]? = some (edges o)∧∃ d,dsts[i]? = some d∧o.dst=some d:=fun i o ho=>by
    have h1:l[i]? = some (opOf o):=by rw [← hops,List.getElem?_map,ho];rfl
    refine ⟨h1,by rw [← hes,List.getElem?_map,ho];rfl,?_⟩
    have h2:=congrArg (fun x=>x[i]?) hl
    simp only [List.getElem?_map,h1,Option.map_some] at h2
    obtain ⟨d,h3,h4⟩:=Option.map_eq_some_iff.mp h2.symm
    exact ⟨d,h3,h4.symm⟩
  refine det_region hm (fun i o ho e he=>?_) (fun i o ho=>?_) (Tab ops dsts vals N wc a0 w2 w3) (fun L a w i o hI ho hL hdep=>?_) (fun L a w hall hI=>done L a w (fun j hj=>hall j (by rw [hlen];exact hj)) hI) ?_
  · obtain ⟨_,h2,_⟩:=get i o ho
    have:=allFrom_get es 0 hb i _ h2
    rw [Nat.zero_add] at this
    exact Nat.le_of_ble_eq_true (List.all_eq_true.mp this e he)
  · obtain ⟨h1,_,_⟩:=get i o ho
    have:=List.all_eq_true.mp hg _ (List.mem_of_getElem? h1)
    exact Option.isNone_iff_eq_none.mp this
  · obtain ⟨h1,h2,d,h3,h4⟩:=get i o ho
    have hop:(l.map (·.2.1))[i]? = some o.op:=by rw [List.getElem?_map,h1];rfl
    have hr:=run L a w i o.op (edges o) o hI ho rfl hop h2 hL hdep (fun i' hi' e' he' j hj=>by
      have hlt:i'<ops.toList.length:=by
        have:=lt_get he'
        have h5:=congrArg List.length hes
        simp only [List.length_map] at h5
        omega
      have ho':=List.getElem?_eq_getElem hlt
      obtain ⟨_,h6,_⟩:=get i' _ ho'
      rw [he'] at h6
      cases h6
      exact hI.closed i' _ ho' hi' j hj)
    refine ⟨_,_,hr,?_⟩
    rw [h4]
    have hdN:=hN d (List.mem_of_getElem? h3)
    have uniq:∀ i',dsts[i']? = some d→i'=i:=fun i' hi'=>by
      exact nodup_get hd hi' h3
    refine ⟨hI.defers,by rw [tput_size];exact hI.size,fun t ht=>?_,fun i' d' hd' hl'=>?_,?_,fun i' o' ho' hl' e he=>?_⟩
    · have hne:d≠t:=by
        rintro rfl
        have:=ht i h3
        simp at this
      rw [tv_other hne]
      exact hI.old t fun i' hi'=>by have:=ht i' hi';simp only [Bool.or_eq_false_iff] at this;exact this.1
    · by_cases e:i'=i
      · subst e
        rw [h3] at hd'
        cases hd'
        exact tv_same (by rw [hI.size];exact hdN)
      · have hne:d≠d':=by
          rintro rfl
          exact e (uniq i' hd')
        rw [tv_other hne]
        refine hI.new i' d' hd' ?_
        rcases Bool.or_eq_true _ _ |>.mp hl' with q | q
        · exact q
        · exact absurd (beq_iff_eq.mp q) e
    · by_cases e:i=wc
      · subst e
        simp
      · have:(wc == i)=false:=by simpa using Ne.symm e
        rw [if_neg e,this,Bool.or_false]
        exact hI.world
    · rcases Bool.or_eq_true _ _ |>.mp hl' with q | q
      · rw [hI.closed i' o' ho' q e he];rfl
      · have:i'=i:=beq_iff_eq.mp q
        subst this
        rw [ho] at ho'
        cases ho'
        rw [hdep e he];rfl
  · exact ⟨h0,hs,fun t _=>rfl,fun i d _ q=>(by cases q),(by rw [hw2];rfl),fun i o _ q=>(by cases q)⟩
theorem seq_region {P:Program} {ops:Array Oper} {l:List (Option Tmp × Op × Option (Nat × Bool))} (h:ops.toList.map opOf=l) {Q:Exit→Act→World→Prop} {a:Act} {w:World} {id:Nat} (hw:wpOps P ops Q (List.range l.length) a w):(Code.region id ops false).wp P Q a w:=by
  refine wp_region ?_
  have:ops.size=l.length:=by have:=congrArg List.length h;simpa using this
  rw [this];exact hw
theorem seq_skip {P:Program} {ops:Array Oper} {Q:Exit→Act→World→Prop} {i:Nat} {tl:List Nat} {a:Act} {w w':World} {o:Oper} {v:Value} (ho:ops.toList[i]? = some o) (hg:o.guard=none) (hd:o.dst=none)
    (hrun:(execOp a.eval o).run P w = .ok (.value v) w') (h:wpOps P ops Q tl a w'):wpOps P ops Q (i :: tl) a w:=by
  have ho':ops[i]? = some o:=by rw [← Array.getElem?_toList];exact ho
  have hw:Region.wanted o (yielded ops a.tmps)=true:=by unfold Region.wanted;rw [hg]
  unfold wpOps
  simp only [ho']
  rw [if_pos hw]
  refine Or.inl ?_
  unfold Oper.wp
  rw [hrun]
  show wpOps P ops Q tl (a.put o.dst v) w'
  rw [hd];exact h
end Go.Proofs.YtnohkcklakipoaaGreatDoor.Ev
set_option linter.unusedVariables false
set_option linter.unusedSimpArgs false
set_option maxRecDepth 100000
namespace Go.Proofs.YtnohkcklakipoaaGreatDoor.Ev
open Go Go.RowKit Go.Proofs
section
variable {P:Program} {cx:Cx} {tS tI elem:TypeId} {e:Ty} {w:World}
theorem run_append_in (hu:P.underlying tS=some (.slice elem)) (hte:TyOf P elem e) {ty:TypeId} {k sLen sCap m c:Nat} {ad:Addr} {vals:Array Value} {vty:TypeId} {fz:Nat × Nat} {news:List Value} (hk:w.heap[k]? = some (.cells vals vty fz)) (hfz:unfrozen vals fz)
    (hlen:news.length=m*e.size) (hsrc:∀ j u,news[j]? = some u→w.cell? (ad.add j)=some u) (hone:∀ u∈news,u.oneCell'=true) (hroom:sLen+m≤sCap) (hfit:sLen*e.size+news.length≤vals.size) :
    (Builtin.append_ #[tS,tS] ty #[.slice (some ⟨k,0,none⟩) sLen sCap,.slice (some ad) m c]).run P w = .ok (.slice (some ⟨k,0,none⟩) (sLen+m) sCap) (rowSet w k (writeAt vals.toList (sLen*e.size) news) vty fz):=by
  obtain ⟨i,hi,hsz,_⟩:=hte.basic
  have hfc:=run_firstCells_some (P:=P) w e.size m ad m c news hlen hsrc
  have hst:=run_storeCells (P:=P) (off:=sLen*e.size) news 0 w vals hk hfz hone (by omega)
  rw [Nat.add_zero] at hst
  simp [Builtin.append_,run_underlying hu,sizeOf,typeInfo,hi,hsz,Builtin.lenOf,hroom,hfc,add_none,hst]
def append_of (tS:TypeId) (t u:Tmp):Op:=.call (.mk (.builtin .append) #[.tmp t,.tmp u] #[tS,tS])
def clear_of (tS:TypeId) (t:Tmp):Op:=.call (.mk (.builtin .clear) #[.tmp t] #[tS])
theorem run_slice (hu:P.underlying tS=some (.slice elem)) (hte:TyOf P elem e) {o:Oper} {a:Act} {t:Tmp} {lo hi mx:Option Operand} (ho:o.op = .slice tS (.tmp t) lo hi mx) {k n cap x y z:Nat} (hv:tv a t = .slice (some ⟨k,0,none⟩) n cap)
    (hlo:match lo with | none=>x=0 | some l=>a.eval l = .int .i64 x) (hhi:match hi with | none=>y=n | some h=>a.eval h = .int .i64 y) (hmx:match mx with | none=>z=cap | some m=>a.eval m = .int .i64 z) (hxy:x≤y) (hyz:y≤z) (hz:z≤cap) (hmh:mx.isSome=true→hi.isSome=true:=by first | exact fun h=>h | exact fun _=>rfl | exact fun h=>by cases h) :
    (execOp a.eval o).run P w = .ok (.value (.slice (if z=x then some ⟨k,0,none⟩ else some ⟨k,x*e.size,none⟩) (y-x) (z-x))) w:=by
  have hv':a.eval (.tmp t) = .slice (some ⟨k,0,none⟩) n cap:=hv
  have hb:(Instr.sliceBounds true n cap (lo.map a.eval) (hi.map a.eval) (mx.map a.eval)).run P w = .ok (x,y,z) w:=by
    cases lo with
    | none =>
      have hlo:x=0:=hlo
      subst hlo
      cases hi with
      | none =>
        have hhi:y=n:=hhi
        subst hhi
        cases mx with
        | none=>have hmx:z=cap:=hmx;subst hmx;simp [Instr.sliceBounds]
        | some m=>exact absurd (hmh rfl) (by simp)
      | some h =>
        have hhi:a.eval h = .int .i64 y:=hhi
        cases mx with
        | none=>have hmx:z=cap:=hmx;subst hmx;simp [Instr.sliceBounds,Instr.sliceBound,asIntOf,hhi,hyz]
        | some m=>have hmx:a.eval m = .int .i64 z:=hmx;simp [Instr.sliceBounds,Instr.sliceBound,asIntOf,hhi,hmx,hz,hyz]
    | some l =>
      have hlo:a.eval l = .int .i64 x:=hlo
      cases hi with
      | none =>
        have hhi:y=n:=hhi
        subst hhi
        cases mx with
        | none=>have hmx:z=cap:=hmx;subst hmx;simp [Instr.sliceBounds,Instr.sliceBound,asIntOf,hlo,hxy,hyz]
        | some m=>exact absurd (hmh rfl) (by simp)
      | some h =>
        have hhi:a.eval h = .int .i64 y:=hhi
        cases mx with
        | none=>have hmx:z=cap:=hmx;subst hmx;simp [Instr.sliceBounds,Instr.sliceBound,asIntOf,hlo,hhi,hxy,hyz]
        | some m=>have hmx:a.eval m = .int .i64 z:=hmx;simp [Instr.sliceBounds,Instr.sliceBound,asIntOf,hlo,hhi,hmx,hz,hxy,hyz]
  unfold execOp
  simp only [ho]
  refine runsTo_of ?_
  simp only [hv']
  simp [Instr.sliceAt,run_underlying hu,Instr.slice,hb,run_sizeOf hte]
  split <;> simp [add_none]
def del0:List (Option Tmp × Op × Option (Nat × Bool)):=[(some 6,.assign (.const (.slice none 0 0)),none)]
def del1 (tS:TypeId):List (Option Tmp × Op × Option (Nat × Bool)):=[(some 8,.move (.tmp 0),none),(some 9,.move (.tmp 1),none),(some 10,.move (.tmp 2),none),(some 11,.move (.tmp 0),none),(some 12,len_of tS 11,none),(some 13,.slice tS (.tmp 8) (some (.tmp 9)) (some (.tmp 10)) (some (.tmp 12)),none)]
def del2 (tI:TypeId):List (Option Tmp × Op × Option (Nat × Bool)):=[(some 14,.move (.tmp 1),none),(some 15,.move (.tmp 2),none),(some 16,.binOp .eql tI (.tmp 14) (.tmp 15) tI,none)]
def del4 (tS:TypeId):List (Option Tmp × Op × Option (Nat × Bool)):=[(some 18,.move (.tmp 0),none),(some 19,len_of tS 18,none),(some 7,.assign (.tmp 19),none)]
def del5 (tS:TypeId):List (Option Tmp × Op × Option (Nat × Bool)):=[(some 20,.move (.tmp 0),none),(some 21,.move (.tmp 1),none),(some 22,.slice tS (.tmp 20) none (some (.tmp 21)) none,none),(some 23,.move (.tmp 0),none),(some 24,.move (.tmp 2),none),(some 25,.slice tS (.tmp 23) (some (.tmp 24)) none none,none),
  (some 26,append_of tS 22 25,none),(some 0,.assign (.tmp 26),none)]
def del5e:List (List Nat):=[[],[],[0,1],[],[],[3,4],[2,5],[6,6,0,1,2,3,4,5,6]]
def del6 (tS:TypeId):List (Option Tmp × Op × Option (Nat × Bool)):=[(some 27,.move (.tmp 0),none),(some 28,.move (.tmp 0),none),(some 29,len_of tS 28,none),(some 30,.move (.tmp 7),none),(some 31,.slice tS (.tmp 27) (some (.tmp 29)) (some (.tmp 30)) none,none),(none,clear_of tS 31,none)]
def del7:List (Option Tmp × Op × Option (Nat × Bool)):=[(some 32,.move (.tmp 0),none),(some 6,.assign (.tmp 32),none)]
structure DelCode where
  i0:Nat
  ops0:Array Oper
  i1:Nat
  ops1:Array Oper
  i2:Nat
  ops2:Array Oper
  c3:Code
  i4:Nat
  ops4:Array Oper
  i5:Nat
  ops5:Array Oper
  i6:Nat
  ops6:Array Oper
  i7:Nat
  ops7:Array Oper
def DelCode.code (c:DelCode):Code:=.seq (.region c.i0 c.ops0 false) (.seq (.region c.i1 c.ops1 false) (.seq (.seq (.region c.i2 c.ops2 false) (.cond (.tmp 16) c.c3 .skip)) (.seq (.region c.i4 c.ops4 false) (.seq (.region c.i5 c.ops5 true) (.seq (.region c.i6 c.ops6 false) (.seq (.region c.i7 c.ops7 false) .ret))))))
def delCode:Code→DelCode
  | .seq (.region i0 ops0 _) (.seq (.region i1 ops1 _) (.seq (.seq (.region i2 ops2 _) (.cond _ c3 _)) (.seq (.region i4 ops4 _) (.seq (.region i5 ops5 _) (.seq (.region i6 ops6 _) (.seq (.region i7 ops7 _) _))))))=>⟨i0,ops0,i1,ops1,i2,ops2,c3,i4,ops4,i5,ops5,i6,ops6,i7,ops7⟩
  | _=>⟨0,#[],0,#[],0,#[],.skip,0,#[],0,#[],0,#[],0,#[]⟩
structure DelOk (P:Program) (tS tI:TypeId) (c:DelCode):Prop where
  h0:c.ops0.toList.map opOf=del0
  h1:c.ops1.toList.map opOf=del1 tS
  h2:c.ops2.toList.map opOf=del2 tI
  h4:c.ops4.toList.map opOf=del4 tS
  h5:c.ops5.toList.map opOf=del5 tS
  h5e:c.ops5.toList.map edges=del5e
  h6:c.ops6.toList.map opOf=del6 tS
  h7:c.ops7.toList.map opOf=del7
theorem del_run (hu:P.underlying tS=some (.slice elem)) (hte:TyOf P elem e) (hm:P.follows .mixedOrders=true) {c:DelCode} (hc:DelOk P tS tI c) {a:Act} {k n cap i j:Nat} {vals:Array Value} {vty:TypeId} {fz:Nat × Nat} (hd:a.defers=[]) (hsz:a.tmps.size=33)
    (t0:tv a 0 = .slice (some ⟨k,0,none⟩) n cap) (t1:tv a 1 = .int .i64 (i:Nat)) (t2:tv a 2 = .int .i64 (j:Nat)) (hij:i<j) (hjn:j≤n) (hk:w.heap[k]? = some (.cells vals vty fz)) (hfz:unfrozen vals fz) (hcap:n≤cap) (hvs:vals.size=cap*e.size) (hone:∀ (p:Nat) (u:Value),p<n*e.size→vals.toList[p]? = some u→u.oneCell'=true) :
    c.code.wp P (fun ex a' w'=>ex = .ret∧a'.defers=[]∧tv a' 6 = .slice (some ⟨k,0,none⟩) (n-(j-i)) cap∧w'.os=w.os∧w'.tape=w.tape∧w'.output=w.output∧w'.heap.size=w.heap.size∧(∀ q,q≠k→w'.heap[q]? = w.heap[q]?) ∧
      ∃ V:Array Value,w'.heap[k]? = some (.cells V vty fz)∧V.size=vals.size∧∀ p,p<(n-(j-i))*e.size→V.toList[p]? = if p<i*e.size then vals.toList[p]? else vals.toList[p+(j-i)*e.size]?) a w:=by
  have hkl:=heap_lt hk
  have hpos:=e.size_pos
  have hunf:∀ V:Array Value,V.size=vals.size→unfrozen V fz:=fun V hV q hq=>hfz q (by rw [← hV];exact hq)
  have hvl:vals.toList.length=cap*e.size:=by rw [Array.length_toList,hvs]
  unfold DelCode.code
  obtain ⟨o0,q0,d0,p0,g0⟩:=op_get hc.h0 (i:=0) rfl
  refine wp_seq (seq_region hc.h0 (seq_step q0 g0 d0 (run_move (Or.inr p0)) ?_))
  obtain ⟨b0,hb0⟩:∃ b0,b0=a.put (some 6) (a.eval (.const (.slice none 0 0))):=⟨_,rfl⟩
  rw [← hb0]
  have bs0:b0.tmps.size=33:=by rw [hb0,tput_size];exact hsz
  have bt0:tv b0 0 = .slice (some ⟨k,0,none⟩) n cap:=by rw [hb0,tv_other (by decide)];exact t0
  have bt1:tv b0 1 = .int .i64 (i:Nat):=by rw [hb0,tv_other (by decide)];exact t1
  have bt2:tv b0 2 = .int .i64 (j:Nat):=by rw [hb0,tv_other (by decide)];exact t2
  have bd0:b0.defers=[]:=by rw [hb0];exact hd
  clear hb0 t0 t1 t2 hd hsz
  show Exit.then _ _ .normal b0 w
  obtain ⟨o0,q0,d0,p0,g0⟩:=op_get hc.h1 (i:=0) rfl
  obtain ⟨o1,q1,d1,p1,g1⟩:=op_get hc.h1 (i:=1) rfl
  obtain ⟨o2,q2,d2,p2,g2⟩:=op_get hc.h1 (i:=2) rfl
  obtain ⟨o3,q3,d3,p3,g3⟩:=op_get hc.h1 (i:=3) rfl
  obtain ⟨o4,q4,d4,p4,g4⟩:=op_get hc.h1 (i:=4) rfl
  obtain ⟨o5,q5,d5,p5,g5⟩:=op_get hc.h1 (i:=5) rfl
  refine wp_seq (seq_region hc.h1 (seq_step q0 g0 d0 (run_move (Or.inl p0)) (seq_step q1 g1 d1 (run_move (Or.inl p1)) (seq_step q2 g2 d2 (run_move (Or.inl p2)) (seq_step q3 g3 d3 (run_move (Or.inl p3)) ?_)))))
  obtain ⟨b1,hb1⟩:∃ b1,b1=(((b0.put (some 8) (b0.eval (.tmp 0))).put (some 9) ((b0.put (some 8) (b0.eval (.tmp 0))).eval (.tmp 1))).put (some 10) (((b0.put (some 8) (b0.eval (.tmp 0))).put (some 9) ((b0.put (some 8) (b0.eval (.tmp 0))).eval (.tmp 1))).eval (.tmp 2))).put (some 11) ((((b0.put (some 8) (b0.eval (.tmp 0))).put (some 9) ((b0.put (some 8) (b0.eval (.tmp 0))).eval (.tmp 1))).put (some 10) (((b0.put (some 8) (b0.eval (.tmp 0))).put (some 9) ((b0.put (some 8) (b0.eval (.tmp 0))).eval (.tmp 1))).eval (.tmp 2))).eval (.tmp 0)):=⟨_,rfl⟩
  rw [← hb1]
  have ev:∀ (x:Act) (t:Nat),x.eval (.tmp t)=tv x t:=fun _ _=>rfl
  have bs1:b1.tmps.size=33:=by rw [hb1];simp only [tput_size];exact bs0
  have c8:tv b1 8 = .slice (some ⟨k,0,none⟩) n cap:=by rw [hb1,tv_other (by decide),tv_other (by decide),tv_other (by decide),tv_same (by rw [bs0];decide)];exact bt0
  have c9:tv b1 9 = .int .i64 (i:Nat):=by rw [hb1,tv_other (by decide),tv_other (by decide),tv_same (by simp only [tput_size];rw [bs0];decide),ev,tv_other (by decide)];exact bt1
  have c10:tv b1 10 = .int .i64 (j:Nat):=by rw [hb1,tv_other (by decide),tv_same (by simp only [tput_size];rw [bs0];decide),ev,tv_other (by decide),tv_other (by decide)];exact bt2
  have c11:tv b1 11 = .slice (some ⟨k,0,none⟩) n cap:=by rw [hb1,tv_same (by simp only [tput_size];rw [bs0];decide),ev,tv_other (by decide),tv_other (by decide),tv_other (by decide)];exact bt0
  have c0:tv b1 0 = .slice (some ⟨k,0,none⟩) n cap:=by rw [hb1,tv_other (by decide),tv_other (by decide),tv_other (by decide),tv_other (by decide)];exact bt0
  have c1:tv b1 1 = .int .i64 (i:Nat):=by rw [hb1,tv_other (by decide),tv_other (by decide),tv_other (by decide),tv_other (by decide)];exact bt1
  have c2:tv b1 2 = .int .i64 (j:Nat):=by rw [hb1,tv_other (by decide),tv_other (by decide),tv_other (by decide),tv_other (by decide)];exact bt2
  have bd1:b1.defers=[]:=by rw [hb1];exact bd0
  clear hb1 bt0 bt1 bt2
  refine seq_step q4 g4 d4 (run_len p4 hu c11) ?_
  have c12:tv (b1.put (some 12) (.int .i64 (n:Nat))) 12 = .int .i64 (n:Nat):=tv_same (by rw [bs1];decide)
  refine seq_step q5 g5 d5 (run_slice hu hte p5 (x:=i) (y:=j) (z:=n) ((tv_other (by decide)).trans c8) ((tv_other (by decide)).trans c9) ((tv_other (by decide)).trans c10) c12 (by omega) hjn hcap) ?_
  obtain ⟨b2,hb2⟩:∃ b2,b2=(b1.put (some 12) (.int .i64 (n:Nat))).put (some 13) (.slice (if n=i then some ⟨k,0,none⟩ else some ⟨k,i*e.size,none⟩) (j-i) (n-i)):=⟨_,rfl⟩
  rw [← hb2]
  have bs2:b2.tmps.size=33:=by rw [hb2];simp only [tput_size];exact bs1
  have bt0:tv b2 0 = .slice (some ⟨k,0,none⟩) n cap:=by rw [hb2,tv_other (by decide),tv_other (by decide)];exact c0
  have bt1:tv b2 1 = .int .i64 (i:Nat):=by rw [hb2,tv_other (by decide),tv_other (by decide)];exact c1
  have bt2:tv b2 2 = .int .i64 (j:Nat):=by rw [hb2,tv_other (by decide),tv_other (by decide)];exact c2
  have bd2:b2.defers=[]:=by rw [hb2];exact bd1
  clear hb2 c8 c9 c10 c11 c12 c0 c1 c2 bs1 bs0
  show Exit.then _ _ .normal b2 w
  obtain ⟨o0,q0,d0,p0,g0⟩:=op_get hc.h2 (i:=0) rfl
  obtain ⟨o1,q1,d1,p1,g1⟩:=op_get hc.h2 (i:=1) rfl
  obtain ⟨o2,q2,d2,p2,g2⟩:=op_get hc.h2 (i:=2) rfl
  refine wp_seq (wp_seq (seq_region hc.h2 (seq_step q0 g0 d0 (run_move (Or.inl p0)) (seq_step q1 g1 d1 (run_move (Or.inl p1)) ?_))))
  obtain ⟨b3,hb3⟩:∃ b3,b3=(b2.put (some 14) (b2.eval (.tmp 1))).put (some 15) ((b2.put (some 14) (b2.eval (.tmp 1))).eval (.tmp 2)):=⟨_,rfl⟩
  rw [← hb3]
  have bs3:b3.tmps.size=33:=by rw [hb3];simp only [tput_size];exact bs2
  have c14:tv b3 14 = .int .i64 (i:Nat):=by rw [hb3,tv_other (by decide),tv_same (by rw [bs2];decide)];exact bt1
  have c15:tv b3 15 = .int .i64 (j:Nat):=by rw [hb3,tv_same (by simp only [tput_size];rw [bs2];decide),ev,tv_other (by decide)];exact bt2
  have c0:tv b3 0 = .slice (some ⟨k,0,none⟩) n cap:=by rw [hb3,tv_other (by decide),tv_other (by decide)];exact bt0
  have c1:tv b3 1 = .int .i64 (i:Nat):=by rw [hb3,tv_other (by decide),tv_other (by decide)];exact bt1
  have c2:tv b3 2 = .int .i64 (j:Nat):=by rw [hb3,tv_other (by decide),tv_other (by decide)];exact bt2
  have bd3:b3.defers=[]:=by rw [hb3];exact bd2
  clear hb3 bt0 bt1 bt2
  have hne:¬ ((i:Int)=(j:Int)):=by omega
  refine seq_step q2 g2 d2 (run_bin p2 c14 c15 (v:=.bool false) (by simp [binOp,Op.intCmp,hne])) ?_
  obtain ⟨b4,hb4⟩:∃ b4,b4=b3.put (some 16) (.bool false):=⟨_,rfl⟩
  rw [← hb4]
  have bs4:b4.tmps.size=33:=by rw [hb4];simp only [tput_size];exact bs3
  have c16:b4.eval (.tmp 16) = .bool false:=by rw [hb4];exact tv_same (by rw [bs3];decide)
  have bt0:tv b4 0 = .slice (some ⟨k,0,none⟩) n cap:=by rw [hb4,tv_other (by decide)];exact c0
  have bt1:tv b4 1 = .int .i64 (i:Nat):=by rw [hb4,tv_other (by decide)];exact c1
  have bt2:tv b4 2 = .int .i64 (j:Nat):=by rw [hb4,tv_other (by decide)];exact c2
  have bd4:b4.defers=[]:=by rw [hb4];exact bd3
  clear hb4 c14 c15 c0 c1 c2
  show Exit.then _ _ .normal b4 w
  refine wp_cond_false c16 (wp_skip ?_)
  show Exit.then _ _ .normal b4 w
  obtain ⟨o0,q0,d0,p0,g0⟩:=op_get hc.h4 (i:=0) rfl
  obtain ⟨o1,q1,d1,p1,g1⟩:=op_get hc.h4 (i:=1) rfl
  obtain ⟨o2,q2,d2,p2,g2⟩:=op_get hc.h4 (i:=2) rfl
  have c18:tv (b4.put (some 18) (b4.eval (.tmp 0))) 18 = .slice (some ⟨k,0,none⟩) n cap:=(tv_same (by rw [bs4];decide)).trans bt0
  refine wp_seq (seq_region hc.h4 (seq_step q0 g0 d0 (run_move (Or.inl p0)) (seq_step q1 g1 d1 (run_len p1 hu c18) (seq_step q2 g2 d2 (run_move (Or.inr p2)) ?_))))
  obtain ⟨b5,hb5⟩:∃ b5,b5=((b4.put (some 18) (b4.eval (.tmp 0))).put (some 19) (.int .i64 (n:Nat))).put (some 7) (((b4.put (some 18) (b4.eval (.tmp 0))).put (some 19) (.int .i64 (n:Nat))).eval (.tmp 19)):=⟨_,rfl⟩
  rw [← hb5]
  have bs5:b5.tmps.size=33:=by rw [hb5];simp only [tput_size];exact bs4
  have c7:tv b5 7 = .int .i64 (n:Nat):=by rw [hb5,tv_same (by simp only [tput_size];rw [bs4];decide),ev,tv_same (by simp only [tput_size];rw [bs4];decide)]
  have c0:tv b5 0 = .slice (some ⟨k,0,none⟩) n cap:=by rw [hb5,tv_other (by decide),tv_other (by decide),tv_other (by decide)];exact bt0
  have c1:tv b5 1 = .int .i64 (i:Nat):=by rw [hb5,tv_other (by decide),tv_other (by decide),tv_other (by decide)];exact bt1
  have c2:tv b5 2 = .int .i64 (j:Nat):=by rw [hb5,tv_other (by decide),tv_other (by decide),tv_other (by decide)];exact bt2
  have bd5:b5.defers=[]:=by rw [hb5];exact bd4
  clear hb5 bt0 bt1 bt2 c18 c16
  show Exit.then _ _ .normal b5 w
  obtain ⟨news,hnews⟩:∃ news:List Value,news=(vals.toList.drop (j*e.size)).take ((n-j)*e.size):=⟨_,rfl⟩
  have hjc:j*e.size+(n-j)*e.size≤cap*e.size:=by rw [← Nat.add_mul];exact Nat.mul_le_mul_right _ (by omega)
  have hnl:news.length=(n-j)*e.size:=by rw [hnews,List.length_take,List.length_drop,hvl];omega
  have hnget:∀ q,q<(n-j)*e.size→news[q]? = vals.toList[j*e.size+q]?:=fun q hq=>by rw [hnews];exact drop_take_get _ _ _ _ hq
  have hic:i*e.size+news.length≤vals.size:=by rw [hnl,hvs,← Nat.add_mul];exact Nat.mul_le_mul_right _ (by omega)
  have hnone:∀ u∈news,u.oneCell'=true:=fun u hu=>by
    obtain ⟨q,hq⟩:=List.getElem?_of_mem hu
    have hlt:q<(n-j)*e.size:=by
      rw [← hnl]
      rcases Nat.lt_or_ge q news.length with g | g
      · exact g
      · rw [List.getElem?_eq_none g] at hq;cases hq
    rw [hnget q hlt] at hq
    refine hone _ u ?_ hq
    have:j*e.size+(n-j)*e.size≤n*e.size:=by rw [← Nat.add_mul];exact Nat.mul_le_mul_right _ (by omega)
    omega
  obtain ⟨w2,hw2⟩:∃ w2:World,w2={ w with drawn:=w.drawn+1 }:=⟨_,rfl⟩
  have hk2:w2.heap[k]? = some (.cells vals vty fz):=by rw [hw2];exact hk
  obtain ⟨w3,hw3⟩:∃ w3:World,w3=rowSet w2 k (writeAt vals.toList (i*e.size) news) vty fz:=⟨_,rfl⟩
  obtain ⟨row,hrow⟩:∃ v:Value,v = .slice (some ⟨k,0,none⟩) n cap:=⟨_,rfl⟩
  obtain ⟨lo,hlo⟩:∃ v:Value,v = .slice (if cap=0 then some ⟨k,0,none⟩ else some ⟨k,0*e.size,none⟩) (i-0) (cap-0):=⟨_,rfl⟩
  obtain ⟨hi,hhi⟩:∃ v:Value,v = .slice (if cap=j then some ⟨k,0,none⟩ else some ⟨k,j*e.size,none⟩) (n-j) (cap-j):=⟨_,rfl⟩
  obtain ⟨res,hres⟩:∃ v:Value,v = .slice (some ⟨k,0,none⟩) (i+(n-j)) cap:=⟨_,rfl⟩
  have hlo':lo = .slice (some ⟨k,0,none⟩) i cap:=by rw [hlo];simp
  refine wp_seq (tab_region hm hc.h5 hc.h5e (dsts:=[20,21,22,23,24,25,26,0]) (vals:=[row,.int .i64 (i:Nat),lo,row,.int .i64 (j:Nat),hi,res,res]) (N:=33) (wc:=6) rfl rfl rfl (by decide) (by decide) bd5 bs5 hw2 (w3:=w3) (fun L a' w' q p ed o hI ho hop hp hed hL hdep hcl=>?_) (fun L a' w' hall hI=>?_))
  · have n0:L 0=false→tv a' 0=row∨True:=fun _=>Or.inr trivial
    have old0:L 7=false→tv a' 0=row:=fun h7=>by
      rw [hrow,← c0]
      exact hI.old 0 fun x hx=>by
        match x,hx with
        | 7,_=>exact h7
    have no7:∀ x,x<7→L x=false→L 7=false:=fun x hx hx2=>by
      cases h:L 7 with
      | false=>rfl
      | true =>
        have:=hcl 7 h _ rfl x (by
          have:∀ x:Fin 7,x.val∈([6,6,0,1,2,3,4,5,6]:List Nat):=by decide
          exact this ⟨x,hx⟩)
        rw [hx2] at this;cases this
    have old1:tv a' 1 = .int .i64 (i:Nat):=by
      rw [← c1]
      exact hI.old 1 fun x hx=>by
        have:∀ x:Fin 8,([20,21,22,23,24,25,26,0]:List Nat).getD x.val 0≠1:=by decide
        have hlt:=lt_get hx
        have:=this ⟨x,hlt⟩
        rw [List.getD_eq_getElem?_getD,hx] at this
        exact absurd rfl this
    have old2:tv a' 2 = .int .i64 (j:Nat):=by
      rw [← c2]
      exact hI.old 2 fun x hx=>by
        have:∀ x:Fin 8,([20,21,22,23,24,25,26,0]:List Nat).getD x.val 0≠2:=by decide
        have hlt:=lt_get hx
        have:=this ⟨x,hlt⟩
        rw [List.getD_eq_getElem?_getD,hx] at this
        exact absurd rfl this
    match q,hp,hed with
    | 0,hp,hed =>
      cases hp
      rw [if_neg (by decide),run_move (Or.inl hop)]
      exact congrArg (fun v=>Result.ok (Next.value v) w') (old0 (no7 0 (by decide) hL))
    | 1,hp,hed =>
      cases hp
      rw [if_neg (by decide),run_move (Or.inl hop)]
      exact congrArg (fun v=>Result.ok (Next.value v) w') old1
    | 2,hp,hed =>
      cases hp
      cases hed
      rw [if_neg (by decide)]
      have e1:=hI.new 0 20 rfl (hdep 0 (by decide))
      have e2:=hI.new 1 21 rfl (hdep 1 (by decide))
      have:=run_slice (w:=w') hu hte hop (x:=0) (y:=i) (z:=cap) (by rw [e1,← hrow];rfl) rfl e2 rfl (Nat.zero_le _) (by omega) (Nat.le_refl _)
      rw [this,hlo];rfl
    | 3,hp,hed =>
      cases hp
      rw [if_neg (by decide),run_move (Or.inl hop)]
      exact congrArg (fun v=>Result.ok (Next.value v) w') (old0 (no7 3 (by decide) hL))
    | 4,hp,hed =>
      cases hp
      rw [if_neg (by decide),run_move (Or.inl hop)]
      exact congrArg (fun v=>Result.ok (Next.value v) w') old2
    | 5,hp,hed =>
      cases hp
      cases hed
      rw [if_neg (by decide)]
      have e1:=hI.new 3 23 rfl (hdep 3 (by decide))
      have e2:=hI.new 4 24 rfl (hdep 4 (by decide))
      have:=run_slice (w:=w') hu hte hop (x:=j) (y:=n) (z:=cap) (by rw [e1,← hrow];rfl) e2 rfl rfl hjn hcap (Nat.le_refl _)
      rw [this,hhi];rfl
    | 6,hp,hed =>
      cases hp
      cases hed
      rw [if_pos rfl]
      have e1:a'.eval (.tmp 22) = .slice (some ⟨k,0,none⟩) i cap:=(hI.new 2 22 rfl (hdep 2 (by decide))).trans hlo'
      have e2:a'.eval (.tmp 25)=hi:=hI.new 5 25 rfl (hdep 5 (by decide))
      have hww:w'=w2:=by rw [hI.world,hL];rfl
      have happ:(Builtin.append_ #[tS,tS] o.type #[.slice (some ⟨k,0,none⟩) i cap,hi]).run P w2 = .ok res w3:=by
        rw [hhi,hres,hw3]
        by_cases hcj:cap=j
        · rw [if_pos hcj]
          have hn0:n-j=0:=by omega
          have hnil:news=[]:=List.eq_nil_of_length_eq_zero (by rw [hnl,hn0];simp)
          rw [hn0]
          exact run_append_in hu hte hk2 hfz (news:=news) (by rw [hnl,hn0]) (fun q u hq=>by rw [hnil] at hq;simp at hq) hnone (by omega) hic
        · rw [if_neg hcj]
          exact run_append_in hu hte hk2 hfz (news:=news) hnl (fun q u hq=>by
            have hlt:=lt_get hq
            rw [add_none,cell_row hk2,← hq,hnget q (by omega)]) hnone (by omega) hic
      rw [hww]
      unfold execOp
      simp only [hop,append_of]
      simp [resolve,invoke,builtin,e1,e2,happ]
    | 7,hp,hed =>
      cases hp
      cases hed
      rw [if_neg (by decide),run_move (Or.inr hop)]
      exact congrArg (fun v=>Result.ok (Next.value v) w') (hI.new 6 26 rfl (hdep 6 (by decide)))
    | q+8,hp,hed=>simp [del5] at hp
  have hL6:L 6=true:=hall 6 (by decide)
  have hww:w'=w3:=by rw [hI.world,hL6];rfl
  subst hww
  have c0':tv a' 0 = .slice (some ⟨k,0,none⟩) (n-(j-i)) cap:=by
    have:=hI.new 7 0 rfl (hall 7 (by decide))
    rw [this]
    show res=_
    rw [hres,show i+(n-j)=n-(j-i) by omega]
  have c7':tv a' 7 = .int .i64 (n:Nat):=by
    rw [← c7]
    exact hI.old 7 fun x hx=>by
      have:∀ x:Fin 8,([20,21,22,23,24,25,26,0]:List Nat).getD x.val 0≠7:=by decide
      have hlt:=lt_get hx
      have:=this ⟨x,hlt⟩
      rw [List.getD_eq_getElem?_getD,hx] at this
      exact absurd rfl this
  have as:=hI.size
  have ad:=hI.defers
  obtain ⟨V1,hV1⟩:∃ V1:Array Value,V1=(writeAt vals.toList (i*e.size) news).toArray:=⟨_,rfl⟩
  have hV1s:V1.size=vals.size:=by rw [hV1];simp [writeAt_length]
  have hk3:w'.heap[k]? = some (.cells V1 vty fz):=by rw [hw3,hV1];exact rowSet_same (by rw [hw2];exact hkl)
  show Exit.then _ _ .normal a' w'
  obtain ⟨o0,q0,d0,p0,g0⟩:=op_get hc.h6 (i:=0) rfl
  obtain ⟨o1,q1,d1,p1,g1⟩:=op_get hc.h6 (i:=1) rfl
  obtain ⟨o2,q2,d2,p2,g2⟩:=op_get hc.h6 (i:=2) rfl
  obtain ⟨o3,q3,d3,p3,g3⟩:=op_get hc.h6 (i:=3) rfl
  obtain ⟨o4,q4,d4,p4,g4⟩:=op_get hc.h6 (i:=4) rfl
  obtain ⟨o5,q5,d5,p5,g5⟩:=op_get hc.h6 (i:=5) rfl
  have x28:tv ((a'.put (some 27) (a'.eval (.tmp 0))).put (some 28) ((a'.put (some 27) (a'.eval (.tmp 0))).eval (.tmp 0))) 28 = .slice (some ⟨k,0,none⟩) (n-(j-i)) cap:=by
    rw [tv_same (by simp only [tput_size];rw [as];decide),ev,tv_other (by decide)];exact c0'
  refine wp_seq (seq_region hc.h6 (seq_step q0 g0 d0 (run_move (Or.inl p0)) (seq_step q1 g1 d1 (run_move (Or.inl p1)) (seq_step q2 g2 d2 (run_len p2 hu x28) (seq_step q3 g3 d3 (run_move (Or.inl p3)) ?_)))))
  obtain ⟨b6,hb6⟩:∃ b6,b6=(((a'.put (some 27) (a'.eval (.tmp 0))).put (some 28) ((a'.put (some 27) (a'.eval (.tmp 0))).eval (.tmp 0))).put (some 29) (.int .i64 ((n-(j-i):Nat)))).put (some 30) ((((a'.put (some 27) (a'.eval (.tmp 0))).put (some 28) ((a'.put (some 27) (a'.eval (.tmp 0))).eval (.tmp 0))).put (some 29) (.int .i64 ((n-(j-i):Nat)))).eval (.tmp 7)):=⟨_,rfl⟩
  rw [← hb6]
  have bs6:b6.tmps.size=33:=by rw [hb6];simp only [tput_size];exact as
  have c27:tv b6 27 = .slice (some ⟨k,0,none⟩) (n-(j-i)) cap:=by rw [hb6,tv_other (by decide),tv_other (by decide),tv_other (by decide),tv_same (by rw [as];decide)];exact c0'
  have c29:tv b6 29 = .int .i64 ((n-(j-i):Nat)):=by rw [hb6,tv_other (by decide),tv_same (by simp only [tput_size];rw [as];decide)]
  have c30:tv b6 30 = .int .i64 (n:Nat):=by rw [hb6,tv_same (by simp only [tput_size];rw [as];decide),ev,tv_other (by decide),tv_other (by decide),tv_other (by decide)];exact c7'
  have c06:tv b6 0 = .slice (some ⟨k,0,none⟩) (n-(j-i)) cap:=by rw [hb6,tv_other (by decide),tv_other (by decide),tv_other (by decide),tv_other (by decide)];exact c0'
  have bd6:b6.defers=[]:=by rw [hb6];exact ad
  clear hb6 x28
  have hcl:¬ cap=n-(j-i):=by omega
  have hsl:=run_slice (w:=w') hu hte p4 (x:=n-(j-i)) (y:=n) (z:=cap) c27 c29 c30 rfl (by omega) hcap (Nat.le_refl _)
  rw [if_neg hcl] at hsl
  refine seq_step q4 g4 d4 hsl ?_
  have c31:tv (b6.put (some 31) (.slice (some ⟨k,(n-(j-i))*e.size,none⟩) (n-(n-(j-i))) (cap-(n-(j-i))))) 31 = .slice (some ⟨k,(n-(j-i))*e.size,none⟩) (n-(n-(j-i))) (cap-(n-(j-i))):=tv_same (by rw [bs6];decide)
  have hfit6:(n-(j-i))*e.size+(n-(n-(j-i)))*e.size≤V1.size:=by
    rw [hV1s,hvs,← Nat.add_mul];exact Nat.mul_le_mul_right _ (by omega)
  have hclear:=run_clear_in (ty:=o5.type) (cap:=cap-(n-(j-i))) hu hte hk3 (hunf V1 hV1s) (n:=n-(n-(j-i))) (by omega) hfit6
  refine seq_skip q5 g5 d5 (v:=.tuple #[]) (w':=rowSet w' k (writeAt V1.toList ((n-(j-i))*e.size) (zerosOf e (n-(n-(j-i))))) vty fz) ?_ ?_
  · have c31':(b6.put (some 31) (.slice (some ⟨k,(n-(j-i))*e.size,none⟩) (n-(n-(j-i))) (cap-(n-(j-i))))).eval (.tmp 31)=_:=c31
    unfold execOp
    simp only [p5,clear_of]
    simp [resolve,invoke,builtin,c31',hclear]
  obtain ⟨w4,hw4⟩:∃ w4,w4=rowSet w' k (writeAt V1.toList ((n-(j-i))*e.size) (zerosOf e (n-(n-(j-i))))) vty fz:=⟨_,rfl⟩
  rw [← hw4]
  obtain ⟨b7,hb7⟩:∃ b7,b7=b6.put (some 31) (.slice (some ⟨k,(n-(j-i))*e.size,none⟩) (n-(n-(j-i))) (cap-(n-(j-i)))):=⟨_,rfl⟩
  rw [← hb7]
  have bs7:b7.tmps.size=33:=by rw [hb7,tput_size];exact bs6
  have c07:tv b7 0 = .slice (some ⟨k,0,none⟩) (n-(j-i)) cap:=by rw [hb7,tv_other (by decide)];exact c06
  have bd7:b7.defers=[]:=by rw [hb7];exact bd6
  show Exit.then _ _ .normal b7 w4
  obtain ⟨o0,q0,d0,p0,g0⟩:=op_get hc.h7 (i:=0) rfl
  obtain ⟨o1,q1,d1,p1,g1⟩:=op_get hc.h7 (i:=1) rfl
  refine wp_seq (seq_region hc.h7 (seq_step q0 g0 d0 (run_move (Or.inl p0)) (seq_step q1 g1 d1 (run_move (Or.inr p1)) ?_)))
  refine wp_ret ⟨rfl,bd7,?_,by rw [hw4,hw3,hw2];rfl,by rw [hw4,hw3,hw2];rfl,by rw [hw4,hw3,hw2];rfl,by rw [hw4,rowSet_size,hw3,rowSet_size,hw2],fun q hq=>by rw [hw4,rowSet_other hq,hw3,rowSet_other hq,hw2],_,by rw [hw4];exact rowSet_same (heap_lt hk3),by simp [writeAt_length,hV1s],fun p hp=>?_⟩
  · rw [tv_same (by simp only [tput_size];rw [bs7];decide)]
    show tv (b7.put (some 32) (b7.eval (.tmp 0))) 32=_
    rw [tv_same (by rw [bs7];decide)]
    exact c07
  · simp only [List.toList_toArray]
    rw [writeAt_get_out _ _ _ _ (Or.inl hp),hV1]
    simp only [List.toList_toArray]
    split
    · next hpi=>rw [writeAt_get_out _ _ _ _ (Or.inl hpi)]
    · next hpi =>
      obtain ⟨d,rfl⟩:∃ d,p=i*e.size+d:=⟨p-i*e.size,by omega⟩
      have hdl:d<news.length:=by
        rw [hnl]
        have h1:n-(j-i)=i+(n-j):=by omega
        rw [h1,Nat.add_mul] at hp
        omega
      rw [writeAt_get_in _ _ _ _ (by rw [Array.length_toList];exact hic) hdl,hnget d (by omega)]
      congr 1
      have:j*e.size=i*e.size+(j-i)*e.size:=by rw [← Nat.add_mul];congr 1;omega
      omega
end
end Go.Proofs.YtnohkcklakipoaaGreatDoor.Ev
namespace Go.Proofs.YtnohkcklakipoaaGreatDoor.Ev
open Go Go.RowKit Go.Proofs
set_option linter.unusedVariables false
set_option linter.unusedSimpArgs false
set_option maxRecDepth 100000
def semDelete {α:Type} (l:List α) (i j:Int):Option (List α):=bif decide (0≤i∧i<j∧j≤(l.length:Int)) then some (l.take i.toNat++l.drop j.toNat) else none
def rowDelete (e:Ty):RSpec:={ t:=e,params:=[.int .i64,.int .i64],sem:=fun l x=>semDelete l x.1 x.2.1 }
theorem tv_args (xs:Array Value) (m t:Nat) (h:t<xs.size):tv { tmps:=xs++Array.replicate m undef,defers:=[] } t=xs.getD t undef:=by
  simp only [tv,Array.getD_eq_getD_getElem?]
  rw [Array.getElem?_append_left h]
theorem ok_Delete {P:Program} {G:World→Prop} {f:FuncId} {fn:Func} (hf:P.funcs[f]? = some fn) (hn:decide (fn.name = "runtime.NumGoroutine")=false) {tS tI elem:TypeId} {e:Ty} (hu:P.underlying tS=some (.slice elem)) (hte:TyOf P elem e)
    (hm:P.follows .mixedOrders=true) {c:DelCode} (hb:fn.body=some c.code) (hc:DelOk P tS tI c) (hr:fn.results=#[.tmp 6]) (hnt:fn.ntmps=33):(rowDelete e).ok P G f:=by
  refine ⟨⟨fn,hf,by simpa using hn,by rw [hb];rfl⟩,fun w S m v0 l args xs l' hG hwas hrow hS hargs hsem=>?_⟩
  have hpos:=e.size_pos
  match args,hargs with
  | [],h=>exact h.elim
  | [_],h=>exact h.2.elim
  | _ :: _ :: _ :: _,h=>exact h.2.2.elim
  | [a1,a2],h =>
  obtain ⟨h1,h2,_⟩:=h
  have h1:[a1]=[Value.int .i64 xs.1]:=h1
  have h2:[a2]=[Value.int .i64 xs.2.1]:=h2
  cases h1;cases h2
  have hsem:semDelete l xs.1 xs.2.1=some l':=hsem
  unfold semDelete at hsem
  obtain ⟨b1,b2,b3⟩:=of_decide_eq_true (cond_none hsem).1
  replace hsem:=(cond_none hsem).2
  cases hsem
  obtain ⟨i,hi⟩:∃ i:Nat,xs.1=(i:Int):=⟨Int.toNat xs.1,(Int.toNat_of_nonneg b1).symm⟩
  obtain ⟨j,hj⟩:∃ j:Nat,xs.2.1=(j:Int):=⟨Int.toNat xs.2.1,(Int.toNat_of_nonneg (Int.le_trans b1 (Int.le_of_lt b2))).symm⟩
  rw [hi,hj] at b2 ⊢
  rw [hj] at b3
  have hij:i<j:=by omega
  have hjn:j≤l.length:=by omega
  rcases hwas with ⟨_,rfl⟩ | ⟨k,cap,vals,ty,fz,rfl,hk,hun,hcap,hsz,hel⟩
  · have hz:j≤0:=hjn
    omega
  have hv0:v0 = .slice (some ⟨k,0,none⟩) l.length cap:=hrow
  subst hv0
  have hsz:vals.size=cap*e.size:=hsz
  have hvl:vals.toList.length=cap*e.size:=by rw [Array.length_toList,hsz]
  have hone:∀ (p:Nat) (u:Value),p<l.length*e.size→vals.toList[p]? = some u→u.oneCell'=true:=by
    intro p u hp hpu
    have hq:p / e.size<l.length:=by rw [Nat.div_lt_iff_lt_mul hpos];exact hp
    refine (hel _ hq).2 u (List.mem_of_getElem? (i:=p % e.size) ?_)
    show ((vals.toList.drop (p / e.size*e.size)).take e.size)[p % e.size]? = some u
    rw [drop_take_get _ _ _ _ (Nat.mod_lt _ hpos),Nat.mul_comm,Nat.div_add_mod]
    exact hpu
  refine calls_of_wp hf hb (wp_mono (del_run (i:=i) (j:=j) (n:=l.length) hu hte hm hc rfl (by rw [hnt];simp) ((tv_args _ _ 0 (by simp)).trans rfl) ((tv_args _ _ 1 (by simp)).trans rfl) ((tv_args _ _ 2 (by simp)).trans rfl) hij hjn hk hun hcap hsz hone) ?_)
  rintro ex a' w' ⟨rfl,hd,h6,hos,htape,hout,hsize,hoth,V,hV,hVs,hVp⟩
  have hres:(results fn a'.tmps).run P w' = .ok (tv a' 6) w':=by
    rw [results_eq,hr]
    simp [resRun]
  refine ⟨hd,_,hres,⟨hos,htape,hout,by omega,fun q hq hne=>hoth q fun e=>hne cap (by rw [e])⟩,some (k,cap),Or.inl rfl,?_,?_⟩
  · have hlen:(l.take i++l.drop j).length=l.length-(j-i):=by rw [List.length_append,List.length_take,List.length_drop];omega
    show tv a' 6 = .slice (some ⟨k,0,none⟩) (l.take ((i:Int).toNat)++l.drop ((j:Int).toNat)).length cap
    rw [Int.toNat_natCast,Int.toNat_natCast,hlen,h6]
  have hlen:(l.take ((i:Int).toNat)++l.drop ((j:Int).toNat)).length=l.length-(j-i):=by rw [Int.toNat_natCast,Int.toNat_natCast,List.length_append,List.length_take,List.length_drop];omega
  refine Or.inr ⟨k,cap,V,ty,fz,rfl,hV,fun q hq=>hun q (by rw [← hVs];exact hq),by rw [hlen];omega,by rw [hVs];exact hsz,fun p=>if p<i then some p else some (p+(j-i)),fun p hp=>Or.inl ?_,fun p p' q hp hp' e1 e2=>?_⟩
  · have hp:p<l.length-(j-i):=by rw [← hlen];exact hp
    refine ⟨if p<i then p else p+(j-i),by split <;> omega,by by_cases q:p<i <;> simp [q],?_,k,cap,vals,ty,fz,rfl,hk,?_⟩
    · show (l.take ((i:Int).toNat)++l.drop ((j:Int).toNat))[p]=_
      apply Option.some.inj
      rw [← List.getElem?_eq_getElem,← List.getElem?_eq_getElem]
      simp only [Int.toNat_natCast]
      by_cases q:p<i
      · rw [List.getElem?_append_left (by rw [List.length_take];omega),List.getElem?_take_of_lt q]
        simp only [q,if_true]
      · rw [List.getElem?_append_right (by rw [List.length_take];omega),List.length_take,List.getElem?_drop]
        simp only [q,if_false]
        congr 1
        omega
    · apply List.ext_getElem?
      intro t
      show ((V.toList.drop (p*e.size)).take e.size)[t]? = ((vals.toList.drop ((if p<i then p else p+(j-i))*e.size)).take e.size)[t]?
      rcases Nat.lt_or_ge t e.size with q | q
      · have hpt:p*e.size+t<(l.length-(j-i))*e.size:=by
          have:=Nat.mul_le_mul_right e.size (show p+1≤l.length-(j-i) by omega)
          rw [Nat.add_mul] at this
          omega
        rw [drop_take_get _ _ _ _ q,drop_take_get _ _ _ _ q,hVp _ hpt]
        by_cases r:p<i
        · have:p*e.size+t<i*e.size:=by
            have:=Nat.mul_le_mul_right e.size (show p+1≤i by omega)
            rw [Nat.add_mul] at this
            omega
          rw [if_pos this,if_pos r]
        · have:¬ p*e.size+t<i*e.size:=by
            have:=Nat.mul_le_mul_right e.size (show i≤p by omega)
            omega
          rw [if_neg this,if_neg r,Nat.add_mul]
          congr 1
          omega
      · rw [List.getElem?_eq_none (by simp;omega),List.getElem?_eq_none (by simp;omega)]
  · simp only at e1 e2
    split at e1 <;> split at e2 <;> (have e3:=Option.some.inj e1;have e4:=Option.some.inj e2;omega)
end Go.Proofs.YtnohkcklakipoaaGreatDoor.Ev
