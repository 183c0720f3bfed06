/- What the claim's form reads of the arguments is typed data; and the frame of a law's row. -/
import Derived.Test.YtnohkcklakipoaaGreatDoorEv5
import Derived.ProofKit
import Derived.OpenShut
import Derived.ShutString
import Derived.ChangeOld
import Derived.Below
import Derived.SizedLaws
import Derived.WideKeyArgs
import Derived.Deep.Slices
import Derived.KernelRfl
namespace Go.Proofs.YtnohkcklakipoaaGreatDoor.Ev
open Go Go.RowKit Go.ChangeShapes Go.WideShapes
set_option linter.unusedVariables false
set_option linter.unusedSimpArgs false
def Ty.noErr:Ty→Bool
  | .err=>false
  | .adr=>false
  | .slice e=>e.noErr
  | .pair a b=>a.noErr&&b.noErr
  | .struct b=>b.noErr
  | _=>true
def Ty.Ok:(t:Ty)→t.den→Prop
  | .int k,n=>k.min≤n∧n≤k.max
  | .bool,_=>True
  | .str,s=>s.size≤maxLen
  | .err,_=>True
  | .adr,_=>True
  | .slice e,l=>l.length≤maxLen∧∀ x∈l,e.Ok x
  | .pair a b,x=>a.Ok x.1∧b.Ok x.2
  | .struct b,x=>b.Ok x
section
variable {H:Type} {enc:TypeId × Value→H} {P:Program} {w:World} {base:Nat} {spare:Nat→Bool} {held:Bool}
theorem TyOf.cellsOf {t:TypeId} {ty:Ty} (h:TyOf P t ty):P.cellsOf t=ty.size:=by
  obtain ⟨i,h1,h2,_⟩:=h.basic
  unfold Program.cellsOf
  rw [h1];exact h2
theorem mapM_cells {a:Addr}:∀ (js:List Nat) (cs:List Value),(js.mapM fun i=>w.cell? (a.add i))=some cs→cs.length=js.length∧∀ (k j:Nat) (c:Value),js[k]? = some j→cs[k]? = some c→w.cell? (a.add j)=some c
  | [],cs,h=>by simp at h;subst h;exact ⟨rfl,fun k j c hk=>by simp at hk⟩
  | j :: js,cs,h=>by
    rw [List.mapM_cons] at h
    cases hc:w.cell? (a.add j) with
    | none=>rw [hc] at h;simp at h
    | some c =>
      rw [hc] at h
      cases hr:(js.mapM fun i=>w.cell? (a.add i)) with
      | none=>rw [hr] at h;simp at h
      | some r =>
        rw [hr] at h
        simp at h
        subst h
        obtain ⟨h1,h2⟩:=mapM_cells js r hr
        refine ⟨by simp [h1],fun k j' c' hk hc'=>?_⟩
        cases k with
        | zero=>simp at hk hc';subst hk;subst hc';exact hc
        | succ k=>exact h2 k j' c' (by simpa using hk) (by simpa using hc')
theorem read_ty:∀ (ty:Ty),ty.noErr=true →
    (∀ (t:TypeId) (n:Nat) (cs:List Value) (x:DataW H × List MemPlace),TyOf P t ty→DataW.trod enc P w base spare held n t cs=some x→∃ y:ty.den,Holds w (fun _=>True) ty y cs∧ty.Ok y) ∧
    (∀ (fs:List Field) (off n:Nat) (cs:List Value),(TyF P ty).2 fs off→(∀ f∈fs,∃ x,DataW.trod enc P w base spare held n f.type ((cs.drop f.offset).take (P.cellsOf f.type))=some x) →
      ∃ y:ty.den,Holds w (fun _=>True) ty y ((cs.drop off).take ty.size)∧ty.Ok y):=by
  intro ty
  have second:∀ {ty:Ty},(∀ a b,ty ≠ .pair a b)→(∀ (t:TypeId) (n:Nat) (cs:List Value) (x:DataW H × List MemPlace),TyOf P t ty→DataW.trod enc P w base spare held n t cs=some x→∃ y:ty.den,Holds w (fun _=>True) ty y cs∧ty.Ok y) →
      ∀ (fs:List Field) (off n:Nat) (cs:List Value),(TyF P ty).2 fs off→(∀ f∈fs,∃ x,DataW.trod enc P w base spare held n f.type ((cs.drop f.offset).take (P.cellsOf f.type))=some x) →
      ∃ y:ty.den,Holds w (fun _=>True) ty y ((cs.drop off).take ty.size)∧ty.Ok y:=by
    intro ty hp h fs off n cs hf hr
    obtain ⟨g,rfl,h1,h2,_⟩:=TyF.last hp hf
    obtain ⟨x,hx⟩:=hr g (by simp)
    rw [h1,h2.cellsOf] at hx
    exact h _ _ _ _ h2 hx
  induction ty with
  | int k =>
    intro _
    have first:∀ (t:TypeId) (n:Nat) (cs:List Value) (x:DataW H × List MemPlace),TyOf P t (.int k)→DataW.trod enc P w base spare held n t cs=some x→∃ y:Int,Holds w (fun _=>True) (.int k) y cs∧Ty.Ok (.int k) y:=by
      intro t n cs x ht h
      obtain ⟨m,rfl,_,hw⟩:=DataW.trod_int ht.1 h
      refine ⟨m,rfl,?_⟩
      simp only [Lit.wf,Bool.and_eq_true,decide_eq_true_eq] at hw
      exact hw
    exact ⟨first,second (by intro a b e;cases e) first⟩
  | bool =>
    intro _
    have first:∀ (t:TypeId) (n:Nat) (cs:List Value) (x:DataW H × List MemPlace),TyOf P t .bool→DataW.trod enc P w base spare held n t cs=some x→∃ y:Bool,Holds w (fun _=>True) .bool y cs∧Ty.Ok .bool y:=by
      intro t n cs x ht h
      obtain ⟨b,rfl,_⟩:=DataW.trod_bool ht.1 h
      exact ⟨b,rfl,trivial⟩
    exact ⟨first,second (by intro a b e;cases e) first⟩
  | str =>
    intro _
    have first:∀ (t:TypeId) (n:Nat) (cs:List Value) (x:DataW H × List MemPlace),TyOf P t .str→DataW.trod enc P w base spare held n t cs=some x→∃ y:ByteArray,Holds w (fun _=>True) .str y cs∧Ty.Ok .str y:=by
      intro t n cs x ht h
      obtain ⟨s,rfl,_,hs⟩:=DataW.trod_string ht.1 h
      exact ⟨s,rfl,hs⟩
    exact ⟨first,second (by intro a b e;cases e) first⟩
  | err=>intro h;cases h
  | adr=>intro h;cases h
  | slice e ih =>
    intro hne
    obtain ⟨ih1,_⟩:=ih hne
    have first:∀ (t:TypeId) (n:Nat) (cs:List Value) (x:DataW H × List MemPlace),TyOf P t (.slice e)→DataW.trod enc P w base spare held n t cs=some x→∃ y:List e.den,Holds w (fun _=>True) (.slice e) y cs∧Ty.Ok (.slice e) y:=by
      intro t n cs x ht h
      obtain ⟨⟨u,hu,hte⟩,_⟩:=ht
      have hte:TyOf P u e:=hte
      rcases Deep.open_slice hu h with ⟨rfl,_⟩ | ⟨ad,len,cap,m,n',D,Pl,rfl,_,hl,hmax,hm,_,hel⟩
      · exact ⟨[],⟨none,0,rfl,Nat.le_refl _,fun i hi=>absurd hi (Nat.not_lt_zero _)⟩,Nat.zero_le _,fun x hx=>by simp at hx⟩
      · have hsz:=hte.cellsOf
        have hlm:len≤m:=by rw [hm];split <;> omega
        haveI:Inhabited e.den:=⟨e.zero⟩
        have key:∀ i,i<len→∃ y:e.den,(∃ cs',w.cells? base (ad.add (i*P.cellsOf u)) (P.cellsOf u)=some cs'∧Holds w (fun _=>True) e y cs')∧e.Ok y:=by
          intro i hi
          obtain ⟨cs',h1,h2⟩:=hel i (by omega)
          obtain ⟨y,h3,h4⟩:=ih1 u n' cs' _ hte h2
          exact ⟨y,⟨cs',h1,h3⟩,h4⟩
        obtain ⟨f,hf⟩:=Deep.choose_lt key
        have hsp:0<len→ad.spot=none:=by
          intro h0
          obtain ⟨⟨cs',h1,h2⟩,_⟩:=hf 0 h0
          rw [hsz] at h1
          unfold World.cells? at h1
          split at h1
          case isFalse=>cases h1
          obtain ⟨q1,q2⟩:=mapM_cells _ _ h1
          have hlen:=h2.length
          have hpos:=e.size_pos
          have:=q2 0 0 _ (List.getElem?_range (by omega)) (List.getElem?_eq_getElem (show 0<cs'.length by omega))
          have h00:(ad.add (0*e.size)).add 0=ad:=by unfold Addr.add;simp
          rw [h00] at this
          unfold World.cell? at this
          split at this
          · cases hs:ad.spot with
            | none=>rfl
            | some s=>rw [hs] at this;simp at this
          · cases this
        refine ⟨(List.range len).map f,?_,?_⟩
        · refine ⟨some ad,cap,by simp,by simpa using hl,fun i hi=>?_⟩
          have hi':i<len:=by simpa using hi
          obtain ⟨⟨cs',h1,h2⟩,_⟩:=hf i hi'
          rw [hsz] at h1
          unfold World.cells? at h1
          split at h1
          case isFalse=>cases h1
          obtain ⟨q1,q2⟩:=mapM_cells _ _ h1
          have hlen:=h2.length
          have hcell:∀ j c,cs'[j]? = some c→w.cell? ((ad.add (i*e.size)).add j)=some c:=by
            intro j c hj
            have hlt:j<e.size:=by
              rw [← hlen]
              rcases Nat.lt_or_ge j cs'.length with g | g
              · exact g
              · rw [List.getElem?_eq_none g] at hj;cases hj
            exact q2 j j c (List.getElem?_range hlt) hj
          have hsp:=hsp (by omega)
          obtain ⟨blk,off,sp⟩:=ad
          simp only at hsp
          subst hsp
          refine ⟨blk,off,cs',rfl,trivial,?_,fun j c hj=>?_⟩
          · have:((List.range len).map f)[i]=f i:=by simp
            rw [this];exact h2
          · have:=hcell j c hj
            rw [add_none,add_none] at this
            exact this
        · refine ⟨by simp;omega,fun x hx=>?_⟩
          obtain ⟨i,hi,rfl⟩:=List.mem_map.mp hx
          exact (hf i (by simpa using hi)).2
    exact ⟨first,second (by intro a b e;cases e) first⟩
  | pair a b iha ihb =>
    intro hne
    simp only [Ty.noErr,Bool.and_eq_true] at hne
    obtain ⟨iha1,_⟩:=iha hne.1
    obtain ⟨_,ihb2⟩:=ihb hne.2
    refine ⟨fun t n cs x ht=>ht.elim,fun fs off n cs hf hr=>?_⟩
    simp only [TyF] at hf
    split at hf
    · next f g r =>
      obtain ⟨h1,⟨h2,_⟩,h3⟩:=hf
      have h2:TyOf P f.type a:=h2
      obtain ⟨x,hx⟩:=hr f (by simp)
      rw [h1,h2.cellsOf] at hx
      obtain ⟨y1,p1,p2⟩:=iha1 _ _ _ _ h2 hx
      obtain ⟨y2,q1,q2⟩:=ihb2 (g :: r) (off+a.size) n cs h3 fun f' hf'=>hr f' (List.mem_cons_of_mem _ hf')
      refine ⟨(y1,y2),⟨_,_,?_,p1,q1⟩,p2,q2⟩
      simp only [Ty.size]
      rw [List.take_add,List.drop_drop]
    · exact hf.elim
  | struct b ih =>
    intro hne
    obtain ⟨_,ih2⟩:=ih hne
    have first:∀ (t:TypeId) (n:Nat) (cs:List Value) (x:DataW H × List MemPlace),TyOf P t (.struct b)→DataW.trod enc P w base spare held n t cs=some x→∃ y:b.den,Holds w (fun _=>True) (.struct b) y cs∧Ty.Ok (.struct b) y:=by
      intro t n cs x ht h
      obtain ⟨⟨fs,hu,hfs⟩,hb⟩:=ht
      have hsz:P.cellsOf t=b.size:=TyOf.cellsOf (ty:=.struct b) ⟨⟨fs,hu,hfs⟩,hb⟩
      obtain ⟨xs,n',rfl,_,hl,hxl,hx⟩:=DataW.trod_struct hu h
      obtain ⟨y,h1,h2⟩:=ih2 fs.toList 0 n' cs hfs (by
        intro f hf
        obtain ⟨i,hi⟩:=List.getElem?_of_mem hf
        have hi':fs[i]? = some f:=by rw [← Array.getElem?_toList];exact hi
        have hlt:i<xs.length:=by
          rw [hxl]
          rcases Nat.lt_or_ge i fs.size with g | g
          · exact g
          · rw [Array.getElem?_eq_none g] at hi';cases hi'
        exact ⟨xs[i],by rw [hx i f hi',List.getElem?_eq_getElem hlt]⟩)
      refine ⟨y,?_,h2⟩
      rw [List.drop_zero,List.take_of_length_le (by omega)] at h1
      exact h1
    exact ⟨first,second (by intro a b e;cases e) first⟩
theorem read_val {r:Reach} {b0:Nat} {ty:Ty} (hn:ty.noErr=true) {t:TypeId} (ht:TyOf P t ty) {v:Value} {d:DataW H} {ps:List MemPlace} (hval:Value.okWide P w r b0 t v) (h:DataW.Trod enc P w base spare held t v d ps) :
    ∃ y:ty.den,ValHolds w (fun _=>True) ty y v∧ty.Ok y:=by
  obtain ⟨n,h⟩:=h
  obtain ⟨y,h1,h2⟩:=(read_ty ty hn).1 t n _ _ ht h
  refine ⟨y,?_,h2⟩
  unfold ValHolds
  cases ty with
  | int k=>obtain ⟨m,rfl⟩:=okWide_int ht.1 hval;exact h1
  | bool=>obtain ⟨m,rfl⟩:=okWide_bool ht.1 hval;exact h1
  | str=>obtain ⟨m,rfl⟩:=okWide_string ht.1 hval;exact h1
  | err=>cases hn
  | adr=>cases hn
  | slice e=>obtain ⟨⟨u,hu,_⟩,_⟩:=ht;obtain ⟨a,l,c,rfl⟩:=okWide_slice hu hval;exact h1
  | pair a b=>exact ht.elim
  | struct b =>
    obtain ⟨⟨fs,hu,_⟩,_⟩:=ht
    obtain ⟨cs,rfl,_⟩:=okWide_struct hu hval
    exact ⟨cs.toList,rfl,h1⟩
def okL:(ts:List Ty)→denL ts→Prop
  | [],_=>True
  | t :: ts,x=>t.Ok x.1∧okL ts x.2
theorem read_args {r:Reach} {b0:Nat}:∀ (tys:List Ty) (ts:List TypeId) (vs:List Value) (ds:List (DataW H)) (ps:List MemPlace),(∀ ty∈tys,ty.noErr=true)→All2 (fun t ty=>TyOf P t ty) ts tys →
    (∀ (j:Nat) (t:TypeId) (v:Value),ts[j]? = some t→vs[j]? = some v→Value.okWide P w r b0 t v)→DataW.TrodAll enc P w base spare held ts vs ds ps→∃ x:denL tys,ArgsHold w (fun _=>True) tys x vs∧okL tys x
  | [],[],vs,ds,ps,_,_,_,h=>by obtain ⟨rfl,_,_⟩:=trodAll_nil h;exact ⟨(),trivial,trivial⟩
  | [],_ :: _,_,_,_,_,h,_,_=>h.elim
  | _ :: _,[],_,_,_,_,h,_,_=>h.elim
  | ty :: tys,t :: ts,vs,ds,ps,hn,ht,hv,h=>by
    obtain ⟨v,vs',d,ds',p,q,rfl,rfl,rfl,h1,h2⟩:=trodAll_cons h
    obtain ⟨y,p1,p2⟩:=read_val (hn ty (by simp)) ht.1 (hv 0 t v rfl rfl) h1
    obtain ⟨ys,q1,q2⟩:=read_args tys ts vs' ds' q (fun ty' h'=>hn ty' (List.mem_cons_of_mem _ h')) ht.2 (fun j t' v' hj hj'=>hv (j+1) t' v' (by simpa using hj) (by simpa using hj')) h2
    exact ⟨(y,ys),⟨p1,q1⟩,p2,q2⟩
theorem again_args (hl:laidOutB P=true) {W W':World} (hb:Below W.heap.size W W'):∀ (ts:List TypeId) (vs:List Value) (ds:List (DataW H)) (ps:List MemPlace),(∀ t∈ts,P.readableRec t=true∧t<P.types.size)→(∀ p∈ps,p.block<W.heap.size) →
    DataW.TrodAll enc P W 0 (fun _=>true) true ts vs ds ps→DataW.TrodAll enc P W' 0 (fun b=>decide (b<W.heap.size)) true ts vs ds ps
  | [],vs,ds,ps,_,_,h=>by obtain ⟨rfl,rfl,rfl⟩:=trodAll_nil h;rfl
  | t :: ts,vs,ds,ps,hr,hlt,h=>by
    obtain ⟨v,vs',d,ds',p,q,rfl,rfl,rfl,h1,h2⟩:=trodAll_cons h
    have r:=hr t (by simp)
    refine ⟨p,q,WideElems.Trod_stays hl r.1 r.2 h1 (fun x hx=>hb.same (hlt x (List.mem_append_left _ hx))) (fun x hx=>by simpa using hlt x (List.mem_append_left _ hx)),?_,rfl⟩
    exact again_args hl hb ts vs' ds' q (fun t' h'=>hr t' (List.mem_cons_of_mem _ h')) (fun x hx=>hlt x (List.mem_append_right _ hx)) h2
end
theorem law_frame {C:Checked} {cx:Cx} {f:FuncId} {fn:Func} {s:ChangeSpec} {tys:List Ty} {sem:denL tys→Option Bool} {b:TypeId}
    (hf:C.prog.funcs[f]? = some fn) {G:World→Prop} (hok:CSpec.ok C.prog G f { params:=tys,res:=[(.bool,false)],fresh:=true,sem:=sem })
    (hn:(tys.all Ty.noErr)=true) (ht:All2 (fun t ty=>TyOf C.prog t ty) fn.params.toList tys) (hres:fn.resultTypes=#[b]) (hb:C.prog.underlying b=some .bool)
    (hl:laidOutB C.prog=true) (hr:∀ t∈fn.params.toList,C.prog.readableRec t=true∧t<C.prog.types.size) (hvars:s.vars=[])
    (hspec:∀ (H:Type) (ds:List (DataW H)),ds.length=tys.length→s.fn H ds={ results:=[.lit (.bool true)],args:=ds })
    (pure:∀ x:denL tys,okL tys x→sem x=some true)
    {H:Type} {enc:TypeId × Value→H} {W:World} {base:Nat} {args:Array Value} {ds gs:List (DataW H)} {before:List MemPlace}
    (hval:∀ (j:Nat) t v,fn.params[j]? = some t→args[j]? = some v→Value.okWide C.prog W .any base t v)
    (hW:DataW.Whole enc C.prog fn.params.toList s.vars false W args.toList ds gs before) (hG:G W) :
    Calls C.prog f args W fun e W'=>∃ v,e = .returned v∧s.post enc C.prog fn false true false false W args v W':=by
  have hlt:=hW.lt
  obtain ⟨p,q,hA,hV,rfl,hfz,hnd⟩:=hW
  have hW':DataW.Whole enc C.prog fn.params.toList s.vars false W args.toList ds gs (p++q):=⟨p,q,hA,hV,rfl,hfz,hnd⟩
  rw [hvars] at hV
  have hgs:gs=[]∧q=[]:=by cases gs <;> simp [DataW.TrodVars] at hV;exact ⟨rfl,hV⟩
  obtain ⟨rfl,rfl⟩:=hgs
  obtain ⟨x,hx,hxo⟩:=read_args tys fn.params.toList args.toList ds p (fun ty h=>List.all_eq_true.mp hn ty h) ht (fun j t v h1 h2=>hval j t v (by rw [← Array.getElem?_toList];exact h1) (by rw [← Array.getElem?_toList];exact h2)) hA
  have hc:=hok.calls W hG (fun _=>True) args.toList x true hx (pure x hxo)
  have hdl:ds.length=tys.length:=by
    have h1:ds.length=fn.params.toList.length:=trodAll_length hA
    rw [h1,ht.length]
  refine (show Calls C.prog f args W _ from hc).mono fun e W' he=>?_
  cases e with
  | panicked c=>exact he.elim
  | outgrown=>exact he.elim
  | returned v =>
    obtain ⟨hbel,vs,ms,rfl,hnew,hres',_⟩:=he
    have hv:vs=[.bool true]:=by
      cases vs with
      | nil=>simp only [ResHold] at hres'
      | cons v vs=>cases vs with
        | nil =>
          simp only [ResHold,ResHold1] at hres'
          have h2:([v]:List Value)=[Value.bool true]:=hres'.2
          exact h2
        | cons u us=>simp only [ResHold] at hres'
    subst hv
    refine ⟨_,rfl,ds,[],p++[],[],p,[],hW',?_,?_,?_,hbel.frame _,fun h=>by cases h⟩
    · rw [List.append_nil,hspec H ds hdl,hres]
      exact trodAll_mk1 (shut_bool hb true)
    · rw [List.append_nil,hspec H ds hdl]
      exact again_args hl hbel _ _ _ _ hr (fun x hx=>hlt x (List.mem_append_left _ hx)) hA
    · rw [hvars]
      rw [List.append_nil,hspec H ds hdl]
      rfl
where
  trodAll_length {H:Type} {enc:TypeId × Value→H} {P:Program} {w:World} {base:Nat} {spare:Nat→Bool} {held:Bool}:∀ {ts:List TypeId} {vs:List Value} {ds:List (DataW H)} {ps:List MemPlace},DataW.TrodAll enc P w base spare held ts vs ds ps→ds.length=ts.length
    | [],vs,ds,ps,h=>by obtain ⟨_,rfl,_⟩:=trodAll_nil h;rfl
    | t :: ts,vs,ds,ps,h=>by
      obtain ⟨v,vs',d,ds',p,q,rfl,rfl,rfl,h1,h2⟩:=trodAll_cons h
      simp [trodAll_length h2]
end Go.Proofs.YtnohkcklakipoaaGreatDoor.Ev
namespace Go.Proofs.YtnohkcklakipoaaGreatDoor.Ev
open Go Go.RowKit
set_option linter.unusedVariables false
set_option linter.unusedSimpArgs false
def valEq:Value→Value→Bool
  | .int k n,.int k' n'=>decide (k=k')&&decide (n=n')
  | .bool b,.bool b'=>b == b'
  | .string s,.string s'=>decide (s.data.toList=s'.data.toList)
  | .nilIface,.nilIface=>true
  | .pointer none,.pointer none=>true
  | .slice none m c,.slice none m' c'=>Nat.beq m m'&&Nat.beq c c'
  | _,_=>false
theorem valEq_sound {u v:Value} (h:valEq u v=true):u=v:=by
  unfold valEq at h
  split at h
  · simp only [Bool.and_eq_true,decide_eq_true_eq] at h;rw [h.1,h.2]
  · simp only [beq_iff_eq] at h;rw [h]
  · next s s' =>
    have h:=of_decide_eq_true h
    cases s;cases s'
    simp only at h
    rw [Array.ext' h]
  · rfl
  · rfl
  · simp only [Bool.and_eq_true,Nat.beq_eq] at h;rw [h.1,h.2]
  · cases h
def valsEq:List Value→List Value→Bool
  | [],[]=>true
  | u :: us,v :: vs=>valEq u v&&valsEq us vs
  | _,_=>false
theorem valsEq_sound:∀ {us vs:List Value},valsEq us vs=true→us=vs
  | [],[],_=>rfl
  | u :: us,v :: vs,h=>by
    simp only [valsEq,Bool.and_eq_true] at h
    rw [valEq_sound h.1,valsEq_sound h.2]
  | [],_ :: _,h=>by cases h
  | _ :: _,[],h=>by cases h
def zeroEq (z:Value) (ty:Ty):Bool :=
  match z with
  | .agg cs=>ty.isAgg&&valsEq cs.toList (zeroVals ty)
  | v=>!ty.isAgg&&valsEq [v] (zeroVals ty)
theorem zeroEq_sound {z:Value} {ty:Ty} (hp:∀ a b,ty ≠ .pair a b) (h:zeroEq z ty=true):z=zeroV ty:=by
  unfold zeroEq at h
  split at h
  · next cs =>
    simp only [Bool.and_eq_true] at h
    have h2:=valsEq_sound h.2
    cases ty <;> simp [Ty.isAgg] at h
    next b =>
    simp only [zeroV]
    rw [show zeroVals b=cs.toList from h2.symm]
  · simp only [Bool.and_eq_true,Bool.not_eq_true'] at h
    have h2:=valsEq_sound h.2
    cases ty with
    | pair a b=>exact absurd rfl (hp a b)
    | struct b=>simp [Ty.isAgg] at h
    | int k=>simp only [zeroVals,List.cons.injEq,and_true] at h2;exact h2
    | bool=>simp only [zeroVals,List.cons.injEq,and_true] at h2;exact h2
    | str=>simp only [zeroVals,List.cons.injEq,and_true] at h2;exact h2
    | err=>simp only [zeroVals,List.cons.injEq,and_true] at h2;exact h2
    | adr=>simp only [zeroVals,List.cons.injEq,and_true] at h2;exact h2
    | slice e=>simp only [zeroVals,List.cons.injEq,and_true] at h2;exact h2
def basicB (P:Program) (t:TypeId) (ty:Ty):Bool :=
  match P.info? t with
  | some i=>Nat.beq i.size ty.size&&Nat.ble i.bytes 4096&&(match i.zero with | some z=>zeroEq z ty | none=>false)
  | none=>false
theorem basicB_sound {P:Program} {t:TypeId} {ty:Ty} (hp:∀ a b,ty ≠ .pair a b) (h:basicB P t ty=true):Basic P t ty.size (zeroV ty):=by
  unfold basicB at h
  split at h
  case h_2=>cases h
  next i hi =>
  simp only [Bool.and_eq_true,Nat.beq_eq] at h
  obtain ⟨⟨h1,h2⟩,h3⟩:=h
  split at h3
  case h_2=>cases h3
  next z hz=>exact ⟨i,hi,h1,Nat.le_of_ble_eq_true h2,by rw [hz,zeroEq_sound hp h3]⟩
def lastB (f:TypeId→Bool) (fs:List Field) (off:Nat):Bool :=
  match fs with
  | [g]=>Nat.beq g.offset off&&f g.type && !decide (g.name = "_")
  | _=>false
theorem lastB_sound {f:TypeId→Bool} {F:TypeId→Prop} (hf:∀ t,f t=true→F t) {fs:List Field} {off:Nat} (h:lastB f fs off=true):lastField F fs off:=by
  unfold lastB at h
  split at h
  · next g =>
    simp only [Bool.and_eq_true,Nat.beq_eq,Bool.not_eq_true',decide_eq_false_iff_not] at h
    exact ⟨h.1.1,hf _ h.1.2,h.2⟩
  · cases h
def tyB (P:Program):Ty→(TypeId→Bool) × (List Field→Nat→Bool)
  | .int k=>(fun t=>(match P.underlying t with | some (.int k')=>decide (k=k') | _=>false)&&basicB P t (.int k),lastB fun t=>(match P.underlying t with | some (.int k')=>decide (k=k') | _=>false)&&basicB P t (.int k))
  | .bool=>(fun t=>(match P.underlying t with | some .bool=>true | _=>false)&&basicB P t .bool,lastB fun t=>(match P.underlying t with | some .bool=>true | _=>false)&&basicB P t .bool)
  | .str=>(fun t=>(match P.underlying t with | some .string=>true | _=>false)&&basicB P t .str,lastB fun t=>(match P.underlying t with | some .string=>true | _=>false)&&basicB P t .str)
  | .err=>(fun t=>(match P.underlying t with | some (.interface _)=>true | _=>false)&&basicB P t .err,lastB fun t=>(match P.underlying t with | some (.interface _)=>true | _=>false)&&basicB P t .err)
  | .adr=>(fun t=>(match P.underlying t with | some (.pointer _)=>true | _=>false)&&basicB P t .adr,lastB fun t=>(match P.underlying t with | some (.pointer _)=>true | _=>false)&&basicB P t .adr)
  | .slice e=>(fun t=>(match P.underlying t with | some (.slice u)=>(tyB P e).1 u | _=>false)&&basicB P t (.slice e),lastB fun t=>(match P.underlying t with | some (.slice u)=>(tyB P e).1 u | _=>false)&&basicB P t (.slice e))
  | .pair a b=>(fun _=>false,fun fs off=>match fs with
    | f :: g :: r=>Nat.beq f.offset off&&((tyB P a).1 f.type && !decide (f.name = "_"))&&(tyB P b).2 (g :: r) (off+a.size)
    | _=>false)
  | .struct b=>(fun t=>(match P.underlying t with | some (.struct fs)=>(tyB P b).2 fs.toList 0 | _=>false)&&basicB P t (.struct b),
      lastB fun t=>(match P.underlying t with | some (.struct fs)=>(tyB P b).2 fs.toList 0 | _=>false)&&basicB P t (.struct b))
theorem tyB_sound {P:Program}:∀ ty:Ty,(∀ t,(tyB P ty).1 t=true→(TyF P ty).1 t)∧(∀ fs off,(tyB P ty).2 fs off=true→(TyF P ty).2 fs off):=by
  intro ty
  induction ty with
  | int k =>
    have first:∀ t,(tyB P (.int k)).1 t=true→(TyF P (.int k)).1 t:=by
      intro t h
      simp only [tyB,Bool.and_eq_true] at h
      have hb:=basicB_sound (by intro a b e;cases e) h.2
      replace h:=h.1
      split at h
      · next k' hk=>have e:=of_decide_eq_true h;subst e;exact ⟨hk,hb⟩
      · cases h
    exact ⟨first,fun fs off h=>lastB_sound (F:=(TyF P (.int k)).1) first h⟩
  | bool =>
    have first:∀ t,(tyB P .bool).1 t=true→(TyF P .bool).1 t:=by
      intro t h
      simp only [tyB,Bool.and_eq_true] at h
      have hb:=basicB_sound (by intro a b e;cases e) h.2
      replace h:=h.1
      split at h
      · next hk=>exact ⟨hk,hb⟩
      · cases h
    exact ⟨first,fun fs off h=>lastB_sound (F:=(TyF P .bool).1) first h⟩
  | str =>
    have first:∀ t,(tyB P .str).1 t=true→(TyF P .str).1 t:=by
      intro t h
      simp only [tyB,Bool.and_eq_true] at h
      have hb:=basicB_sound (by intro a b e;cases e) h.2
      replace h:=h.1
      split at h
      · next hk=>exact ⟨hk,hb⟩
      · cases h
    exact ⟨first,fun fs off h=>lastB_sound (F:=(TyF P .str).1) first h⟩
  | err =>
    have first:∀ t,(tyB P .err).1 t=true→(TyF P .err).1 t:=by
      intro t h
      simp only [tyB,Bool.and_eq_true] at h
      have hb:=basicB_sound (by intro a b e;cases e) h.2
      replace h:=h.1
      split at h
      · next ms hk=>exact ⟨⟨ms,hk⟩,hb⟩
      · cases h
    exact ⟨first,fun fs off h=>lastB_sound (F:=(TyF P .err).1) first h⟩
  | adr =>
    have first:∀ t,(tyB P .adr).1 t=true→(TyF P .adr).1 t:=by
      intro t h
      simp only [tyB,Bool.and_eq_true] at h
      have hb:=basicB_sound (by intro a b e;cases e) h.2
      replace h:=h.1
      split at h
      · next ms hk=>exact ⟨⟨ms,hk⟩,hb⟩
      · cases h
    exact ⟨first,fun fs off h=>lastB_sound (F:=(TyF P .adr).1) first h⟩
  | slice e ih =>
    have first:∀ t,(tyB P (.slice e)).1 t=true→(TyF P (.slice e)).1 t:=by
      intro t h
      simp only [tyB,Bool.and_eq_true] at h
      have hb:=basicB_sound (by intro a b e;cases e) h.2
      replace h:=h.1
      split at h
      · next u hk=>exact ⟨⟨u,hk,ih.1 u h⟩,hb⟩
      · cases h
    exact ⟨first,fun fs off h=>lastB_sound (F:=(TyF P (.slice e)).1) first h⟩
  | pair a b iha ihb =>
    refine ⟨fun t h=>by simp [tyB] at h,fun fs off h=>?_⟩
    simp only [tyB] at h
    split at h
    · next f g r =>
      simp only [Bool.and_eq_true,Nat.beq_eq,Bool.not_eq_true',decide_eq_false_iff_not] at h
      exact ⟨h.1.1,⟨iha.1 _ h.1.2.1,h.1.2.2⟩,ihb.2 _ _ h.2⟩
    · cases h
  | struct b ih =>
    have first:∀ t,(tyB P (.struct b)).1 t=true→(TyF P (.struct b)).1 t:=by
      intro t h
      simp only [tyB,Bool.and_eq_true] at h
      have hb:=basicB_sound (by intro a b e;cases e) h.2
      replace h:=h.1
      split at h
      · next fs hk=>exact ⟨⟨fs,hk,ih.2 _ _ h⟩,hb⟩
      · cases h
    exact ⟨first,fun fs off h=>lastB_sound (F:=(TyF P (.struct b)).1) first h⟩
def look {α:Type}:List (Nat × α)→Nat→Option α
  | [],_=>none
  | (g,x) :: r,f=>bif Nat.beq g f then some x else look r f
theorem look_mem {α:Type}:∀ (l:List (Nat × α)) (f:Nat) (x:α),look l f=some x→(f,x)∈l
  | [],_,_,h=>by cases h
  | (g,y) :: r,f,x,h=>by
    simp only [look] at h
    cases hg:Nat.beq g f with
    | true =>
      rw [hg] at h
      cases h
      have:=Nat.eq_of_beq_eq_true hg
      subst this
      exact List.mem_cons_self ..
    | false=>rw [hg] at h;exact List.mem_cons_of_mem _ (look_mem r f x h)
structure Tabs where
  ty:List (Nat × Ty)
  cmp:List Nat
  body:List (Nat × Func)
  keep:List Nat→Nat→Keep
  k:Nat
def Tabs.cx (T:Tabs) (calls:List (Nat × CSpec)):Cx where
  ty:=look T.ty
  cmp:=fun t=>T.cmp.contains t
  body:=look T.body
  call:=look calls
  keep:=T.keep
  k:=T.k
def bodiesOk (P:Program):List (Nat × Func)→Prop
  | []=>True
  | (f,fn) :: r=>(P.funcs[f]? = some fn∧(decide (fn.name = "runtime.NumGoroutine"))=false∧fn.body.isSome=true)∧bodiesOk P r
structure Tabs.ok (P:Program) (T:Tabs):Prop where
  ty:(T.ty.all fun p=>(tyB P p.2).1 p.1)=true
  cmp:(T.cmp.all fun t=>!P.stoodInHeld t && !P.eqGuardType P.depth t)=true
  body:bodiesOk P T.body
  mixed:P.follows .mixedOrders=true
theorem bodiesOk_get {P:Program}:∀ (l:List (Nat × Func)),bodiesOk P l→∀ f fn,(f,fn)∈l→P.funcs[f]? = some fn∧fn.name ≠ "runtime.NumGoroutine" ∧ fn.body.isSome=true
  | [],_,f,fn,h=>by simp at h
  | (g,gn) :: r,ho,f,fn,h=>by
    rcases List.mem_cons.mp h with e | h
    · cases e
      exact ⟨ho.1.1,of_decide_eq_false ho.1.2.1,ho.1.2.2⟩
    · exact bodiesOk_get r ho.2 f fn h
theorem Tabs.cx_ok {P:Program} {T:Tabs} (h:T.ok P) (calls:List (Nat × CSpec)):(T.cx calls).ok P:=by
  refine ⟨fun t ty ht=>?_,fun t ht=>?_,fun f fn hf=>bodiesOk_get _ h.body f fn (look_mem _ _ _ hf),h.mixed⟩
  · exact (tyB_sound ty).1 t (List.all_eq_true.mp h.ty _ (look_mem _ _ _ ht))
  · have hm:t∈T.cmp:=by simpa [Tabs.cx] using ht
    have:=List.all_eq_true.mp h.cmp t hm
    simpa using this
def Lasts (G:World→Prop):Prop:=∀ w w':World,G w→Below w.heap.size w w'→G w'
def callsOk (P:Program) (G:World→Prop):List (Nat × CSpec)→Prop
  | []=>True
  | (f,s) :: r=>s.ok P G f∧callsOk P G r
theorem callsOk_get {P:Program} {G:World→Prop}:∀ (l:List (Nat × CSpec)),callsOk P G l→∀ f s,(f,s)∈l→s.ok P G f
  | [],_,f,s,h=>by simp at h
  | (g,gs) :: r,ho,f,s,h=>by
    rcases List.mem_cons.mp h with e | h
    · cases e;exact ho.1
    · exact callsOk_get r ho.2 f s h
theorem Tabs.good {P:Program} {T:Tabs} (h:T.ok P) {G:World→Prop} (hG:Lasts G) {calls:List (Nat × CSpec)} (hc:callsOk P G calls):(T.cx calls).good P G :=
  ⟨T.cx_ok h calls,fun f s hs=>callsOk_get _ hc f s (look_mem _ _ _ hs),fun f s hs=>(by cases hs),fun f s hs=>(by cases hs),hG⟩
theorem fn_ok {P:Program} {T:Tabs} (h:T.ok P) {G:World→Prop} (hG:Lasts G) {calls:List (Nat × CSpec)} (hc:callsOk P G calls) (d:Nat) {f:FuncId} {fn:Func} (hf:look T.body f=some fn) (s:CSpec) (hs:evFn (T.cx calls) d fn s.params s.res s.fresh=s.sem):s.ok P G f :=
  evFn_ok (T.good h hG hc) d hf s fun x r hr=>by rw [hs];exact hr
def since (W w:World):Prop:=W.heap.size≤w.heap.size∧Below W.heap.size W w
theorem since.lasts (W:World):Lasts (since W):=fun _ _ h hb=>⟨Nat.le_trans h.1 hb.size,h.2.trans (hb.mono h.1)⟩
theorem since.refl (W:World):since W W:=⟨Nat.le_refl _,Below.refl _ _⟩
end Go.Proofs.YtnohkcklakipoaaGreatDoor.Ev
set_option linter.unusedVariables false
namespace Go.Proofs.YtnohkcklakipoaaGreatDoor.Ev
open Go Go.RowKit Go.Proofs
theorem fill_ok {P:Program} {T:Tabs} (h:T.ok P) {G:World→Prop} (hG:Lasts G) {calls:List (Nat × CSpec)} (hc:callsOk P G calls) (d hs:Nat) (dIx:Tmp) {f:FuncId} {fn:Func} (hf:look T.body f=some fn) (s:CSpec) (he:evFill (T.cx calls) d hs dIx fn s.params s.res s.fresh=s.sem):s.ok P G f :=
  evFill_ok (T.good h hG hc) d hs dIx hf s fun x r hr=>by rw [he];exact hr
end Go.Proofs.YtnohkcklakipoaaGreatDoor.Ev
namespace Go.Proofs.YtnohkcklakipoaaGreatDoor.Ev
open Go Go.RowKit
set_option linter.unusedVariables false
set_option linter.unusedSimpArgs false
section
variable {P:Program} {cx:Cx} {E:Env} {w0 w:World} {μ:Lie} {st:St} {a:Act} {bl:List Blk}
end
def Tabs.cxp (T:Tabs) (calls:List (Nat × CSpec)) (ptrs:List (Nat × PSpec)) (rows:List (Nat × RSpec):=[]) (swap:Bool:=false):Cx where
  ty:=look T.ty
  cmp:=fun t=>T.cmp.contains t
  body:=look T.body
  call:=look calls
  keep:=T.keep
  k:=T.k
  ptr:=look ptrs
  row:=look rows
  swap:=swap
def ptrsOk (P:Program) (G:World→Prop):List (Nat × PSpec)→Prop
  | []=>True
  | (f,s) :: r=>s.ok P G f∧ptrsOk P G r
theorem ptrsOk_get {P:Program} {G:World→Prop}:∀ (l:List (Nat × PSpec)),ptrsOk P G l→∀ f s,(f,s)∈l→s.ok P G f
  | [],_,f,s,h=>by simp at h
  | (g,gs) :: r,ho,f,s,h=>by
    rcases List.mem_cons.mp h with e | h
    · cases e;exact ho.1
    · exact ptrsOk_get r ho.2 f s h
def rowsOk (P:Program) (G:World→Prop):List (Nat × RSpec)→Prop
  | []=>True
  | (f,s) :: r=>s.ok P G f∧rowsOk P G r
theorem rowsOk_get {P:Program} {G:World→Prop}:∀ (l:List (Nat × RSpec)),rowsOk P G l→∀ f s,(f,s)∈l→s.ok P G f
  | [],_,f,s,h=>by simp at h
  | (g,gs) :: r,ho,f,s,h=>by
    rcases List.mem_cons.mp h with e | h
    · cases e;exact ho.1
    · exact rowsOk_get r ho.2 f s h
theorem Tabs.goodp {P:Program} {T:Tabs} (h:T.ok P) {G:World→Prop} (hG:Lasts G) {calls:List (Nat × CSpec)} (hc:callsOk P G calls) {ptrs:List (Nat × PSpec)} (hp:ptrsOk P G ptrs) {rows:List (Nat × RSpec)} (hr:rowsOk P G rows) (swap:Bool):(T.cxp calls ptrs rows swap).good P G:=by
  have h0:=T.cx_ok h calls
  exact ⟨⟨h0.ty,h0.cmp,h0.body,h0.mixed⟩,fun f s hs=>callsOk_get _ hc f s (look_mem _ _ _ hs),fun f s hs=>ptrsOk_get _ hp f s (look_mem _ _ _ hs),fun f s hs=>rowsOk_get _ hr f s (look_mem _ _ _ hs),hG⟩
theorem fnp_ok {P:Program} {T:Tabs} (h:T.ok P) {G:World→Prop} (hG:Lasts G) {calls:List (Nat × CSpec)} (hc:callsOk P G calls) {ptrs:List (Nat × PSpec)} (hp:ptrsOk P G ptrs) {rows:List (Nat × RSpec)} (hr:rowsOk P G rows) (swap:Bool) (d:Nat) {f:FuncId} {fn:Func} (hf:look T.body f=some fn) (s:CSpec) (hs:evFn (T.cxp calls ptrs rows swap) d fn s.params s.res s.fresh=s.sem):s.ok P G f :=
  evFn_ok (T.goodp h hG hc hp hr swap) d hf s fun x r hr=>by rw [hs];exact hr
end Go.Proofs.YtnohkcklakipoaaGreatDoor.Ev
namespace Go.Proofs.YtnohkcklakipoaaGreatDoor.Pl
open Go Go.RowKit Go.Proofs.YtnohkcklakipoaaGreatDoor.Ev
set_option linter.unusedVariables false
set_option linter.unusedSimpArgs false
abbrev big:Nat:=1048576
abbrev fuel:Nat:=2097152
end Go.Proofs.YtnohkcklakipoaaGreatDoor.Pl
set_option linter.unusedVariables false
set_option linter.unusedSimpArgs false
namespace Go.Proofs.YtnohkcklakipoaaGreatDoor.Ev
open Go Go.RowKit Go.Proofs
end Go.Proofs.YtnohkcklakipoaaGreatDoor.Ev
set_option linter.unusedVariables false
set_option linter.unusedSimpArgs false
namespace Go.Proofs.YtnohkcklakipoaaGreatDoor.Ev
open Go Go.RowKit Go.Proofs
end Go.Proofs.YtnohkcklakipoaaGreatDoor.Ev
set_option linter.unusedVariables false
set_option linter.unusedSimpArgs false
set_option maxRecDepth 100000
namespace Go.Proofs.YtnohkcklakipoaaGreatDoor.Ev
open Go Go.RowKit Go.Proofs
structure RepAt (w:World) (k:Nat) (vty:TypeId) (fz:Nat × Nat) (size sz m:Nat) (cs:List Value) (w':World) (V:Array Value):Prop where
  os:w'.os=w.os
  tape:w'.tape=w.tape
  output:w'.output=w.output
  hsz:w'.heap.size=w.heap.size
  other:∀ j,j≠k→w'.heap[j]? = w.heap[j]?
  row:w'.heap[k]? = some (.cells V vty fz)
  len:V.size=size
  cells:∀ j,j<m*sz→V.toList[j]? = cs[j % sz]?
theorem RepAt.drawn {w:World} {k:Nat} {vty:TypeId} {fz:Nat × Nat} {size sz m:Nat} {cs:List Value} {w':World} {V:Array Value} (h:RepAt w k vty fz size sz m cs w' V) (d:Nat):RepAt w k vty fz size sz m cs { w' with drawn:=d } V :=
  ⟨h.os,h.tape,h.output,h.hsz,h.other,h.row,h.len,h.cells⟩
section
variable {P:Program} {cx:Cx} {tS tI elem:TypeId} {e:Ty} {w:World} {k n cap:Nat} {vty:TypeId} {fz:Nat × Nat} {cs:List Value} {size:Nat}
end
end Go.Proofs.YtnohkcklakipoaaGreatDoor.Ev
set_option linter.unusedVariables false
set_option linter.unusedSimpArgs false
set_option maxRecDepth 100000
namespace Go.Proofs.YtnohkcklakipoaaGreatDoor.Ev
open Go Go.RowKit Go.Proofs
structure RepCode where
  c0:Code
  c1:Code
  c2:Code
  c3:Code
  c4:Code
  i7:Nat
  ops7:Array Oper
  i8:Nat
  ops8:Array Oper
  i9:Nat
  ops9:Array Oper
  i10:Nat
  ops10:Array Oper
def RepCode.code (c:RepCode):Code:=.seq c.c0 (.seq c.c1 (.seq c.c2 (.seq c.c3 (.seq c.c4 (.seq (.region c.i7 c.ops7 false) (.seq (.block 0 (.loop (.seq (.seq (.region c.i8 c.ops8 false) (.cond (.tmp 37) .skip (.exit 0))) (.block 1 (.region c.i9 c.ops9 true))))) (.seq (.region c.i10 c.ops10 false) .ret)))))))
end Go.Proofs.YtnohkcklakipoaaGreatDoor.Ev
