/- append. -/
import Derived.Test.YtnohkcklakipoaaGreatDoorEv2
namespace Go.Proofs.YtnohkcklakipoaaGreatDoor.Ev
open Go Go.RowKit
set_option linter.unusedVariables false
set_option linter.unusedSimpArgs false
variable {ρ:Type}
section
variable {P:Program} {cx:Cx} {E:Env} {w0 w:World} {μ:Lie} {st:St} {a:Act} {o:Oper} {K:V→St→Option ρ} {r:ρ}
def TreesOf (w:World) (t:Ty) (l:List t.den) (news:List Value) (Fs:List (List Nat)):Prop :=
  Fs.length=l.length∧∀ i (h:i<l.length),HoldsT w t l[i] ((news.drop (i*t.size)).take t.size) (Fs.getD i [])
theorem TreesOf.flat {S:Nat→Prop} {t:Ty} (hf:t.flat=true) {l:List t.den} {news:List Value} (h:Chunks w S t l news):TreesOf w t l news (List.replicate l.length []) :=
  ⟨by simp,fun i hi=>by rw [getD_replicate];exact (h.el i hi).tree hf⟩
theorem TreesOf.append {t:Ty} {l m:List t.den} {xs ys:List Value} {Fs Gs:List (List Nat)} (hx:xs.length=l.length*t.size) (h:TreesOf w t l xs Fs) (h':TreesOf w t m ys Gs):TreesOf w t (l++m) (xs++ys) (Fs++Gs):=by
  refine ⟨by rw [List.length_append,List.length_append,h.1,h'.1],fun i hi=>?_⟩
  by_cases g:i<l.length
  · rw [List.getElem_append_left g]
    have:((xs++ys).drop (i*t.size)).take t.size=(xs.drop (i*t.size)).take t.size:=by
      apply List.ext_getElem?
      intro j
      rcases Nat.lt_or_ge j t.size with q | q
      · have:(i+1)*t.size≤l.length*t.size:=Nat.mul_le_mul_right _ g
        rw [Nat.add_mul,← hx] at this
        rw [drop_take_get _ _ _ _ q,drop_take_get _ _ _ _ q,List.getElem?_append_left (by omega)]
      · rw [List.getElem?_eq_none (by simp;omega),List.getElem?_eq_none (by simp;omega)]
    rw [this,List.getD_eq_getElem?_getD,List.getElem?_append_left (by rw [h.1];exact g),← List.getD_eq_getElem?_getD]
    exact h.2 i g
  · have hi':i-l.length<m.length:=by rw [List.length_append] at hi;omega
    rw [List.getElem_append_right (by omega)]
    have:((xs++ys).drop (i*t.size)).take t.size=(ys.drop ((i-l.length)*t.size)).take t.size:=by
      apply List.ext_getElem?
      intro j
      rcases Nat.lt_or_ge j t.size with q | q
      · have e:i*t.size+j=xs.length+((i-l.length)*t.size+j):=by
          rw [hx,← Nat.add_assoc,← Nat.add_mul,show l.length+(i-l.length)=i by omega]
        rw [drop_take_get _ _ _ _ q,drop_take_get _ _ _ _ q,e,List.getElem?_append_right (by omega),Nat.add_sub_cancel_left]
      · rw [List.getElem?_eq_none (by simp;omega),List.getElem?_eq_none (by simp;omega)]
    rw [this,List.getD_eq_getElem?_getD,List.getElem?_append_right (by rw [h.1];omega),h.1,← List.getD_eq_getElem?_getD]
    exact h'.2 _ hi'
theorem TreesOf.nest {w':World} {t:Ty} {l:List t.den} {news:List Value} {Fs:List (List Nat)} (h:TreesOf w t l news Fs) (hn:news.length=l.length*t.size) {k cap:Nat} {cells:Array Value} {ty:TypeId} {fz:Nat × Nat} (hk:w'.heap[k]? = some (.cells cells ty fz))
    (hp:∀ j,j<news.length→cells.toList[j]? = news[j]?) (hF:∀ k∈Fs.flatten,w'.heap[k]? = w.heap[k]?):NestT w' t l (some (k,cap)) Fs.flatten:=by
  refine Or.inr ⟨k,cap,cells,ty,fz,Fs,rfl,hk,rfl,h.1,fun i hi=>?_⟩
  have:(cells.toList.drop (i*t.size)).take t.size=(news.drop (i*t.size)).take t.size:=by
    apply List.ext_getElem?
    intro j
    rcases Nat.lt_or_ge j t.size with q | q
    · have:(i+1)*t.size≤l.length*t.size:=Nat.mul_le_mul_right _ hi
      rw [Nat.add_mul,← hn] at this
      rw [drop_take_get _ _ _ _ q,drop_take_get _ _ _ _ q,hp _ (by omega)]
    · rw [List.getElem?_eq_none (by simp;omega),List.getElem?_eq_none (by simp;omega)]
  rw [this]
  exact (h.2 i hi).mono fun k hk=>hF k (mem_flatten_getD hk)
theorem src_trees {τ:Nat→List Nat} {bl:List Blk} (hm:Mem E w0 w μ bl) (ht:TreeOk E w μ bl τ) {b g:Nat} {t:Ty} {l:List t.den} (hb:bl[b]? = some (.arr g true true t l)) {v:Value} (hv:RowVal (μ b) l.length v)
    {tx:TypeId} {news:List Value} (hs:Src P t.size tx v l.length news w):∃ Fs,Fs.flatten=τ b∧TreesOf w t l news Fs:=by
  rcases hm.blocks b _ hb with ⟨h1,h2⟩ | ⟨k,cap,vals,ty,fz,h1,h2,h3,h4,h5,h6,h7⟩
  · subst h2
    rcases ht.nest b g t _ hb with ⟨_,q⟩ | ⟨k,cap,cells,ty,fz,Fs,q1,_⟩
    · exact ⟨[],q.symm,rfl,fun i hi=>absurd hi (Nat.not_lt_zero _)⟩
    · rw [h1] at q1;cases q1
  · rw [h1] at hv
    have hv:v = .slice (some ⟨k,0,none⟩) l.length cap:=hv
    subst hv
    have hle:l.length*t.size≤vals.toList.length:=by
      have:=Nat.mul_le_mul_right t.size h5
      rw [← h6] at this;simpa using this
    have hch:=Elems.chunks h7 hle
    have hrun:=run_firstCells_some (P:=P) w t.size l.length ⟨k,0,none⟩ l.length cap (vals.toList.take (l.length*t.size)) hch.len (fun j u hj=>by
      rw [add_none,Nat.zero_add,cell_row h3]
      rw [List.getElem?_take] at hj
      split at hj
      · exact hj
      · cases hj)
    have hnews:news=vals.toList.take (l.length*t.size):=by
      have:=hrun.symm.trans hs.cells
      simpa using this.symm
    rcases ht.nest b g t l hb with ⟨q1,q2⟩ | ⟨k',cap',cells,ty',fz',Fs,q1,q2,q3,q4,q5⟩
    · subst q1
      exact ⟨[],q2.symm,rfl,fun i hi=>absurd hi (Nat.not_lt_zero _)⟩
    · rw [h1] at q1;cases q1
      rw [h3] at q2;cases q2
      refine ⟨Fs,q3.symm,q4,fun i hi=>?_⟩
      have:(news.drop (i*t.size)).take t.size=(vals.toList.drop (i*t.size)).take t.size:=by
        rw [hnews]
        apply List.ext_getElem?
        intro j
        rcases Nat.lt_or_ge j t.size with q | q
        · have:(i+1)*t.size≤l.length*t.size:=Nat.mul_le_mul_right _ hi
          rw [Nat.add_mul] at this
          rw [drop_take_get _ _ _ _ q,drop_take_get _ _ _ _ q,List.getElem?_take_of_lt (by omega)]
        · rw [List.getElem?_eq_none (by simp;omega),List.getElem?_eq_none (by simp;omega)]
      rw [this]
      exact q5 i hi
theorem row_trees {τ:Nat→List Nat} {bl:List Blk} (ht:TreeOk E w μ bl τ) {b g:Nat} {t:Ty} {l:List t.den} (hb:bl[b]? = some (.arr g true true t l)) {k cap:Nat} {vals:Array Value} {ty:TypeId} {fz:Nat × Nat} (h1:μ b=some (k,cap)) (h3:w.heap[k]? = some (.cells vals ty fz)) :
    ∃ Fs,List.flatten Fs=τ b∧TreesOf w t l (vals.toList.take (l.length*t.size)) Fs:=by
  rcases ht.nest b g t l hb with ⟨q1,q2⟩ | ⟨k',cap',cells,ty',fz',Fs,q1,q2,q3,q4,q5⟩
  · subst q1
    exact ⟨[],q2.symm,rfl,fun i hi=>absurd hi (Nat.not_lt_zero _)⟩
  · rw [h1] at q1;cases q1
    rw [h3] at q2;cases q2
    refine ⟨Fs,q3.symm,q4,fun i hi=>?_⟩
    have:((vals.toList.take (l.length*t.size)).drop (i*t.size)).take t.size=(vals.toList.drop (i*t.size)).take t.size:=by
      apply List.ext_getElem?
      intro j
      rcases Nat.lt_or_ge j t.size with q | q
      · have:(i+1)*t.size≤l.length*t.size:=Nat.mul_le_mul_right _ hi
        rw [Nat.add_mul] at this
        rw [drop_take_get _ _ _ _ q,drop_take_get _ _ _ _ q,List.getElem?_take_of_lt (by omega)]
      · rw [List.getElem?_eq_none (by simp;omega),List.getElem?_eq_none (by simp;omega)]
    rw [this]
    exact q5 i hi
theorem row_trees_none {τ:Nat→List Nat} {bl:List Blk} (ht:TreeOk E w μ bl τ) {b g:Nat} {t:Ty} (hb:bl[b]? = some (.arr g true true t [])) (h1:μ b=none):∃ Fs,List.flatten Fs=τ b∧TreesOf w t [] [] Fs:=by
  rcases ht.nest b g t _ hb with ⟨q1,q2⟩ | ⟨k',cap',cells,ty',fz',Fs,q1,_⟩
  · exact ⟨[],q2.symm,rfl,fun i hi=>absurd hi (Nat.not_lt_zero _)⟩
  · rw [h1] at q1;cases q1
theorem toList_two {α:Type} {xs:Array α} {x y:α} (h:xs.toList=[x,y]):xs=#[x,y]:=by
  rw [← Array.toArray_toList (xs:=xs),h]
theorem handOver_sound (hR:Rel E w0 μ st a w) {b g:Nat} {nf:Bool} {t:Ty} {l:List t.den} (hb:st.bl[b]? = some (.arr g true nf t l)) (y:V) :
    ∃ st1,handOver st b nf t y=st1∧Rel E w0 μ st1 a w∧st1.tmps=st.tmps∧Goes w μ st w μ st1∧st1.bl[b]? = some (.arr g true nf t l)∧(∀ k,Own μ st1.bl k→Own μ st.bl k) ∧
      ((nf && !t.flat&&handsOver st b y)=true→∃ (c gc:Nat) (t2:Ty) (l2:List t2.den),y = .at (.os c gc)∧st.bl[c]? = some (.arr gc true true t2 l2)∧c≠b∧st.freeze c=some st1):=by
  unfold handOver
  cases hc:nf && !t.flat&&handsOver st b y with
  | false=>exact ⟨st,by simp only [cond_false],hR,rfl,Goes.refl _ _ _,hb,fun _ h=>h,fun e=>by cases e⟩
  | true =>
    have hh:=hc
    rw [Bool.and_eq_true] at hh
    obtain ⟨-,hh⟩:=hh
    unfold handsOver at hh
    clear hc
    split at hh
    case h_2=>cases hh
    next c gc =>
    split at hh
    case h_2=>cases hh
    next g' t2 l2 hbc =>
    rw [Bool.and_eq_true,Bool.and_eq_true] at hh
    obtain ⟨⟨h1,h2⟩,h3⟩:=hh
    have h1:gc=g':=by simpa using h1
    subst h1
    have h2:c≠b:=by simpa using h2
    have hf:st.freeze c=some { st with bl:=st.bl.set c (.arr gc false true t2 l2) }:=by
      unfold St.freeze
      simp only [hbc]
      rw [Bool.not_eq_true'] at h3
      rw [h3];rfl
    obtain ⟨r1,t1,g1,o1,f1,k1⟩:=St.freeze_sound hR hf
    refine ⟨_,by simp only [cond_true,hf],r1,t1,g1,?_,o1,fun _=>⟨c,gc,t2,l2,rfl,hbc,h2,hf⟩⟩
    show (st.bl.set c _)[b]? = _
    rw [getElem?_set_ne' (Ne.symm h2)];exact hb
theorem rowOf_new {bl:List Blk} {Y:V} {m:Row} (h:rowOf bl Y=some m) (hf:m.t.flat=true):m.fr=true:=by
  unfold rowOf at h
  split at h
  · cases h;rfl
  · split at h
    · cases h
      simp only at hf
      simp only [hf,Bool.or_true]
    · cases h
  · cases h
theorem rowOf_own {bl:List Blk} {c gc:Nat} {t:Ty} {l:List t.den} {m:Row} (hb:bl[c]? = some (.arr gc true true t l)) (h:rowOf bl (.at (.os c gc))=some m):m=⟨true,t,l⟩:=by
  unfold rowOf at h
  simp only [A.view,hb,beq_self_eq_true,cond_true,Bool.true_or] at h
  cases h;rfl
theorem eff_append (hcx:cx.ok P) (hR:Rel E w0 μ st a w) {c:Call} (ho:o.op = .call c) (hc:c.callee = .builtin .append) {x y:Operand} (hxy:c.args.toList=[x,y])
    (h:evAppend cx c.argTypes.toList (st.get x) (st.get y) st K=some r):Eff P E w0 μ st a w o K r:=by
  unfold evAppend at h
  split at h
  case h_2=>cases h
  next t0 t1 b g m hts hx hy =>
  split at h
  case h_2=>cases h
  next g' nf t l hb =>
  have hg:=(cond_none h).1
  replace h:=(cond_none h).2
  simp only [Bool.and_eq_true,Bool.not_eq_true',beq_iff_eq] at hg
  obtain ⟨⟨⟨rfl,hlock⟩,hst⟩,hrt⟩:=hg
  revert h
  split
  case h_2=>intro h;cases h
  next hmt heq =>
  intro h
  obtain ⟨mfr,mt,ml⟩:=m
  simp only at hmt
  subst hmt
  obtain ⟨hlen,h⟩:=cond_none h
  have hlen:=of_decide_eq_true hlen
  simp only at hlen h
  obtain ⟨e,hu,hte⟩:=sliceTy_sound hcx hst
  obtain ⟨i,hi,hisz,hby,hiz⟩:=hte.basic
  have hpos:=mt.size_pos
  obtain ⟨news,hsrc,hnews⟩:=rowOf_sound hcx hR.mem (hR.get y) hy hrt
  have hmine:mine st.bl b:=by unfold mine;rw [hb]
  have hra:=hR.get x
  rw [hx] at hra
  have hrow:=(hra.2 _ _ _ _ _ hb).2 rfl
  have hargs:=toList_two hxy
  have htys:=toList_two hts
  obtain ⟨st1,hst1,r1,tm1,g1,hb1,o1,hhand⟩:=handOver_sound hR hb (st.get y)
  rw [hst1] at h
  have hnew:(nf&&(mt.flat||handsOver st b (st.get y)))=true→nf=true∧mfr=true:=by
    intro q
    rw [Bool.and_eq_true] at q
    refine ⟨q.1,?_⟩
    cases hfl:mt.flat with
    | true=>exact rowOf_new hy hfl
    | false =>
      have q2:=q.2
      rw [hfl,Bool.false_or] at q2
      obtain ⟨c,gc,t2,l2,e1,e2,_,_⟩:=hhand (by rw [q.1,hfl,q2];rfl)
      rw [e1] at hy
      have:=rowOf_own e2 hy
      exact congrArg Row.fr this
  have hdd:∀ (fr:Bool) (k:Nat),E.D μ st.bl fr k→E.D μ st1.bl fr k:=fun fr k hk=>⟨hk.1,fun ho=>hk.2 (o1 k ho)⟩
  have hmine1:mine st1.bl b:=by unfold mine;rw [hb1]
  have htrees:(nf&&(mt.flat||handsOver st b (st.get y)))=true→∃ τ Gs,TreeOk E w μ st1.bl τ∧TreesOf w mt ml news Gs∧List.Nodup (List.flatten Gs)∧∀ k∈List.flatten Gs,E.N k∧k<w.heap.size∧¬ Own μ st1.bl k∧∀ d,Tree st1.bl d→k ∉ τ d:=by
    intro q
    rw [Bool.and_eq_true] at q
    obtain ⟨τ,hτ⟩:=hR.tree
    cases hfl:mt.flat with
    | true =>
      obtain ⟨τ1,hτ1⟩:=r1.tree
      refine ⟨τ1,_,hτ1,TreesOf.flat hfl hnews,by rw [replicate_flatten];exact List.nodup_nil,fun k hk=>?_⟩
      rw [replicate_flatten] at hk;cases hk
    | false =>
      have q2:=q.2
      rw [hfl,Bool.false_or] at q2
      obtain ⟨c,gc,t2,l2,e1,e2,e3,e4⟩:=hhand (by rw [q.1,hfl,q2];rfl)
      have hm:=rowOf_own e2 (by rw [← e1];exact hy)
      cases hm
      have hry:=hR.get y
      rw [e1] at hry
      have hvy:=(hry.2 _ _ _ _ _ e2).2 rfl
      obtain ⟨Gs,f1,f2⟩:=src_trees hR.mem hτ e2 hvy hsrc
      have hct:Tree st.bl c:=⟨_,_,_,e2⟩
      refine ⟨τ,Gs,hτ.freeze' e4,f2,by rw [f1];exact hτ.nodup c hct,fun k hk=>?_⟩
      rw [f1] at hk
      obtain ⟨p1,p2,p3⟩:=hτ.new c hct k hk
      refine ⟨p1,p2,fun ho=>p3 (o1 k ho),fun d hd hkd=>?_⟩
      obtain ⟨g9,t9,l9,q9⟩:=hd
      obtain ⟨q10,q11⟩:=tree_back1 e4 q9
      exact hτ.apart c d hct ⟨_,_,_,q10⟩ (Ne.symm q11) k hk hkd
  have hrunop:∀ v w',(Builtin.append_ #[t0,t1] o.type #[a.eval x,a.eval y]).run P w = .ok v w'→(execOp a.eval o).run P w = .ok (.value v) w':=by
    intro v w' hr
    unfold execOp
    simp only [ho]
    simp [resolve,hc,hargs,htys,invoke,builtin,hr]
  have hn2:Chunks w (E.D μ st1.bl (nf&&(mt.flat||handsOver st b (st.get y)))) mt ml news:=hnews.weaken fun k hk=>Env.D_less (fun q=>(hnew q).2) (hdd _ k hk)
  have hchunk:∀ {olds:List Value},Chunks w (E.D μ st1.bl nf) mt l olds→Chunks w (E.D μ st1.bl (nf&&(mt.flat||handsOver st b (st.get y)))) mt (l++ml) (olds++news):=fun hold=>(hold.weaken fun k hk=>Env.D_less (fun q=>(hnew q).1) hk).append hn2
  have fin:∀ (m':Option (Nat × Nat)) (w':World),Mem E w0 w' (μ.put b m') (st1.bl.set b (.arr (g+1) true (nf&&(mt.flat||handsOver st b (st.get y))) mt (l++ml)))∧Evo w μ st1.bl w' (μ.put b m') (st1.bl.set b (.arr (g+1) true (nf&&(mt.flat||handsOver st b (st.get y))) mt (l++ml))) →
      Trees E w' (μ.put b m') (st1.bl.set b (.arr (g+1) true (nf&&(mt.flat||handsOver st b (st.get y))) mt (l++ml)))→∀ v,RowVal m' (l++ml).length v→(Builtin.append_ #[t0,t1] o.type #[a.eval x,a.eval y]).run P w = .ok v w'→Eff P E w0 μ st a w o K r:=by
    intro m' w' hme htr v hv hr
    refine ⟨_,_,_,v,w',h,?_,r1.next hme.1 hme.2 htr,tm1,g1.trans (goes_set (by rw [g1.lock];exact hlock) hme.2),Or.inl (hrunop v w' hr)⟩
    refine ⟨⟨?_,by have:=alive_lt (mine_alive hmine1);simpa using this⟩,fun g2 own nf2 u l2 hb2=>?_⟩
    · unfold RowVal at hv
      split at hv
      · obtain ⟨rfl,_⟩:=hv;rfl
      · subst hv;rfl
    · have hself:=getElem?_set_self (y:=Blk.arr (g+1) true (nf&&(mt.flat||handsOver st b (st.get y))) mt (l++ml)) hb1
      rw [show (st1.bl.set b (Blk.arr (g+1) true (nf&&(mt.flat||handsOver st b (st.get y))) mt (l++ml)))[b]? = _ from hself] at hb2
      cases hb2
      exact ⟨Nat.le_refl _,fun _=>by rw [Lie.put_same];exact hv⟩
  have harr:∀ (m':Option (Nat × Nat)) (g2:Nat) (own nf2:Bool) (u:Ty) (l2:List u.den),Blk.arr (g+1) true (nf&&(mt.flat||handsOver st b (st.get y))) mt (l++ml) = .arr g2 own nf2 u l2 →
      ∃ g' own' nf' l',Blk.arr g true nf mt l = .arr g' own' nf' u l'∧g'≤g2∧(g'=g2→l'.length=l2.length∧m'=μ b):=by
    intro m' g2 own nf2 u l2 e
    cases e
    exact ⟨g,true,nf,l,rfl,Nat.le_succ _,fun q=>by omega⟩
  have htr:∀ (m':Option (Nat × Nat)) (w':World) (olds:List Value),Evo w μ st1.bl w' (μ.put b m') (st1.bl.set b (.arr (g+1) true (nf&&(mt.flat||handsOver st b (st.get y))) mt (l++ml)))→w.heap.size≤w'.heap.size →
      (∀ j,j<w.heap.size→(∀ c,μ b≠some (j,c))→w'.heap[j]? = w.heap[j]?)→olds.length=l.length*mt.size→(∀ τ,TreeOk E w μ st1.bl τ→nf=true→∃ Fs,List.flatten Fs=τ b∧TreesOf w mt l olds Fs) →
      ((l++ml=[]∧m'=none)∨∃ k cap cells ty fz,m'=some (k,cap)∧w'.heap[k]? = some (.cells cells ty fz)∧∀ j,j<(olds++news).length→cells.toList[j]? = (olds++news)[j]?) →
      Trees E w' (μ.put b m') (st1.bl.set b (.arr (g+1) true (nf&&(mt.flat||handsOver st b (st.get y))) mt (l++ml))):=by
    intro m' w' olds ev hsz hw hlo hold hcells
    cases hq:nf&&(mt.flat||handsOver st b (st.get y)) with
    | false =>
      rw [hq] at ev
      exact r1.tree.turn r1.mem hmine1 hw ev fun _ _ _ e=>by cases e
    | true =>
      obtain ⟨τ,Gs,p1,p2,p3,p4⟩:=htrees hq
      have hnf:=(hnew hq).1
      obtain ⟨Fs,f1,f2⟩:=hold τ p1 hnf
      rw [hq] at ev
      have hbt:Tree st1.bl b:=⟨g,mt,l,by rw [hb1,hnf]⟩
      have hall:=TreesOf.append hlo f2 p2
      have hflat:(Fs++Gs).flatten=τ b++Gs.flatten:=by rw [List.flatten_append,f1]
      have hnotown:∀ k∈(Fs++Gs).flatten,E.N k∧k<w.heap.size∧¬ Own μ st1.bl k:=by
        intro k hk
        rw [hflat] at hk
        rcases List.mem_append.mp hk with hk | hk
        · exact p1.new b hbt k hk
        · exact ⟨(p4 k hk).1,(p4 k hk).2.1,(p4 k hk).2.2.1⟩
      refine ⟨_,p1.turn r1.mem hmine1 hw ev (F:=(Fs++Gs).flatten) (fun g' t' l' e=>?_) (fun k hk=>?_) ?_ (fun d hd hdt k hk hkd=>?_)⟩
      · cases e
        rcases hcells with ⟨e1,e2⟩ | ⟨k,cap,cells,ty,fz,e1,e2,e3⟩
        · have hl0:Fs++Gs=[]:=List.eq_nil_of_length_eq_zero (by rw [List.length_append,f2.1,p2.1,← List.length_append,e1];rfl)
          rw [hl0]
          exact Or.inl ⟨e1,rfl⟩
        · rw [e1]
          exact hall.nest (by rw [List.length_append,List.length_append,Nat.add_mul,hlo,hnews.len]) e2 e3 fun k hk=>by
            obtain ⟨_,h2,h3⟩:=hnotown k hk
            exact ev.heap k h2 h3
      · obtain ⟨h1,h2,h3⟩:=hnotown k hk
        exact ⟨h1,Nat.lt_of_lt_of_le h2 hsz,fun ho=>h3 (ev.own k ho h2)⟩
      · rw [hflat]
        exact List.nodup_append.mpr ⟨p1.nodup b hbt,p3,fun k hk k' hk' e=>(p4 k' hk').2.2.2 b hbt (e ▸ hk)⟩
      · rw [hflat] at hk
        rcases List.mem_append.mp hk with hk | hk
        · exact p1.apart b d hbt hdt (Ne.symm hd) k hk hkd
        · exact (p4 k hk).2.2.2 d hdt hkd
  have hgrow:∀ (base:Option Addr) (cap:Nat) (olds:List Value),a.eval x = .slice base l.length cap→(Builtin.firstCells i.size l.length (.slice base l.length cap)).run P w.drew = .ok olds.toArray w.drew →
      Chunks w (E.D μ st1.bl nf) mt l olds→cap<l.length+ml.length→(∀ τ,TreeOk E w μ st1.bl τ→nf=true→∃ Fs,List.flatten Fs=τ b∧TreesOf w mt l olds Fs)→Eff P E w0 μ st a w o K r:=by
    intro base cap olds hv hf hold hlt hot
    have hlm:(l.length+ml.length)*i.bytes≤140737488355328:=by
      have:(l.length+ml.length)*i.bytes≤8589934592*4096:=Nat.mul_le_mul (by unfold most at hlen;omega) hby
      omega
    have hr:=run_append_grow_src w t0 t1 o.type e i (zeroV mt) hu hi hiz base l.length cap olds hf (a.eval y) ml.length news (by rw [hisz];exact hsrc) hlt (by unfold most at hlen;omega) (growslice_fits hlt hlm)
    rw [← hv] at hr
    have hge:=grownCap_ge w (l.length+ml.length) cap e
    have hol:(olds++news).length=(l.length+ml.length)*mt.size:=by rw [List.length_append,hold.len,hnews.len,Nat.add_mul]
    have hzs:(zeroV mt).cells.size=mt.size:=by rw [zeroV_cells hte];simp [zeroVals_length]
    have hme:=r1.mem.turn (w':=w.drew.alloc (.cells ((olds++news).toArray++Builtin.zeroCells (zeroV mt).cells (grownCap w (l.length+ml.length) cap e-(l.length+ml.length))) e)) (blk':=.arr (g+1) true (nf&&(mt.flat||handsOver st b (st.get y))) mt (l++ml)) hb1 hmine1 (some (w.heap.size,grownCap w (l.length+ml.length) cap e)) rfl rfl rfl ?_ ?_ (Or.inr fun k c q=>by cases q;exact Nat.le_refl _) (fun cs q=>by cases q) (harr _) fun ev=>?_
    refine fin _ _ hme (htr _ _ olds hme.2 (by simp) (fun j hj _=>heap_alloc_old w.drew _ hj) hold.len hot (Or.inr ⟨_,_,_,e,(0,0),rfl,heap_alloc_new w.drew _,fun j hj=>by rw [Array.toList_append,List.getElem?_append_left (by simpa using hj)]⟩)) (.slice (some ⟨w.heap.size,0,none⟩) (l.length+ml.length) (grownCap w (l.length+ml.length) cap e)) (by simp [RowVal]) hr
    · simp
    · intro j hj _
      exact heap_alloc_old w.drew _ hj
    · refine Or.inr ⟨w.heap.size,_,_,e,(0,0),Lie.put_same _ _ _,E.hN _ r1.mem.big,heap_alloc_new w.drew _,unfrozen_zero _,by rw [List.length_append];exact hge,?_,?_⟩
      · rw [Array.size_append,size_zeroCells,hzs,List.size_toArray,hol,← Nat.add_mul]
        congr 1
        omega
      · have hch:Chunks w (E.D μ st1.bl (nf&&(mt.flat||handsOver st b (st.get y)))) mt (l++ml) (olds++news):=hchunk hold
        refine (hch.elems fun j hj=>?_).mono (ev.D (E:=E))
        rw [Array.toList_append,List.getElem?_append_left (by simpa using hj)]
  rcases r1.mem.blocks b _ hb1 with ⟨h1,h2⟩ | ⟨k,cap,vals,vty,fz,h1,h2,h3,h4,h5,h6,h7⟩
  · subst h2
    rw [h1] at hrow
    have hv:a.eval x = .slice none 0 0:=hrow.1
    by_cases hz:ml.length=0
    · have hml:ml=[]:=List.eq_nil_of_length_eq_zero hz
      subst hml
      have hnil:news=[]:=List.eq_nil_of_length_eq_zero (by rw [hnews.len];simp)
      subst hnil
      have hr:=run_append_nothing w t0 t1 o.type e i hu hi none 0 0 (Nat.le_refl _) (a.eval y) (by rw [hisz];exact hsrc)
      rw [← hv] at hr
      have hme:Mem E w0 w (μ.put b none) (st1.bl.set b (.arr (g+1) true (nf&&(mt.flat||handsOver st b (st.get y))) mt ([]++[])))∧Evo w μ st1.bl w (μ.put b none) (st1.bl.set b (.arr (g+1) true (nf&&(mt.flat||handsOver st b (st.get y))) mt ([]++[]))):=by
        have:=r1.mem.turn (w':=w) (blk':=.arr (g+1) true (nf&&(mt.flat||handsOver st b (st.get y))) mt ([]++[])) hb1 hmine1 none rfl rfl rfl (Nat.le_refl _) (fun _ _ _=>rfl) (Or.inl h1.symm) (fun cs q=>by cases q) (harr _) (fun ev=>Or.inl ⟨Lie.put_same _ _ _,rfl⟩)
        exact this
      exact fin none w hme (htr none w [] hme.2 (Nat.le_refl _) (fun _ _ _=>rfl) (by simp) (fun τ hτ e=>by subst e;exact row_trees_none hτ hb1 h1) (Or.inl ⟨rfl,rfl⟩)) _ ⟨hv,rfl⟩ hr
    · refine hgrow none 0 [] hv (run_firstCells_none w.drew _ _ _ _) ⟨by simp,fun i hi=>by simp at hi⟩ (by simp only [List.length_nil];omega) (fun τ hτ e=>by subst e;exact row_trees_none hτ hb1 h1)
  · rw [h1] at hrow
    have hv:a.eval x = .slice (some ⟨k,0,none⟩) l.length cap:=hrow
    have hle:l.length*mt.size≤vals.toList.length:=by
      have:=Nat.mul_le_mul_right mt.size h5
      rw [← h6] at this;simpa using this
    have hold:=Elems.chunks h7 hle
    have hcell:∀ j u,(vals.toList.take (l.length*mt.size))[j]? = some u→w.cell? ((⟨k,0,none⟩:Addr).add j)=some u:=by
      intro j u hj
      rw [add_none,Nat.zero_add,cell_row h3]
      rw [List.getElem?_take] at hj
      split at hj
      · exact hj
      · cases hj
    by_cases hroom:l.length+ml.length≤cap
    · have hfit:l.length*mt.size+news.length≤vals.size:=by
        rw [hnews.len,h6,← Nat.add_mul]
        exact Nat.mul_le_mul_right _ hroom
      have hst:=run_storeCells (P:=P) (off:=l.length*mt.size) news 0 w vals h3 h4 hsrc.one (by omega)
      rw [Nat.add_zero] at hst
      have hr:(Builtin.append_ #[t0,t1] o.type #[.slice (some ⟨k,0,none⟩) l.length cap,a.eval y]).run P w = .ok (.slice (some ⟨k,0,none⟩) (l.length+ml.length) cap) (rowSet w k (writeAt vals.toList (l.length*mt.size) news) vty fz):=by
        rcases hsrc.kind with ⟨e',hk⟩ | hk <;> simp [Builtin.append_,run_underlying hu,run_underlying hk,sizeOf,typeInfo,hi,hisz,hsrc.len,hroom,hsrc.cells,Addr.add_lit,hst]
      rw [← hv] at hr
      have hkl:=heap_lt h3
      have hme:=r1.mem.turn (w':=rowSet w k (writeAt vals.toList (l.length*mt.size) news) vty fz) (blk':=.arr (g+1) true (nf&&(mt.flat||handsOver st b (st.get y))) mt (l++ml)) hb1 hmine1 (some (k,cap)) rfl rfl rfl (by rw [rowSet_size];exact Nat.le_refl _) (fun j hj hne=>rowSet_other fun q=>hne cap (by rw [q];exact h1)) (Or.inl h1.symm) (fun cs q=>by cases q) (harr _) fun ev=>?_
      have htl0:(vals.toList.take (l.length*mt.size)).length=l.length*mt.size:=by rw [List.length_take];omega
      refine fin _ _ hme (htr _ _ (vals.toList.take (l.length*mt.size)) hme.2 (by rw [rowSet_size];exact Nat.le_refl _) (fun j hj hne=>rowSet_other fun q=>hne cap (by rw [q];exact h1)) htl0 (fun τ hτ e=>by subst e;exact row_trees hτ hb1 h1 h3) (Or.inr ⟨_,_,_,vty,fz,rfl,rowSet_same hkl,fun j hj=>by
        rw [List.length_append,htl0] at hj
        simp only [List.toList_toArray]
        by_cases q:j<l.length*mt.size
        · rw [writeAt_get_out _ _ _ _ (Or.inl q),List.getElem?_append_left (by omega),List.getElem?_take_of_lt q]
        · obtain ⟨d,rfl⟩:∃ d,j=l.length*mt.size+d:=⟨j-l.length*mt.size,by omega⟩
          rw [writeAt_get_in _ _ _ _ (by simpa using hfit) (by omega),List.getElem?_append_right (by omega),htl0,Nat.add_sub_cancel_left]⟩)) (.slice (some ⟨k,0,none⟩) (l.length+ml.length) cap) (by simp [RowVal]) hr
      refine Or.inr ⟨k,cap,_,vty,fz,Lie.put_same _ _ _,h2,rowSet_same hkl,(fun j hj hh=>h4 j (by simpa [writeAt_length] using hj) hh),by simpa using hroom,by simpa [writeAt_length] using h6,?_⟩
      have hch:Chunks w (E.D μ st1.bl (nf&&(mt.flat||handsOver st b (st.get y)))) mt (l++ml) (vals.toList.take (l.length*mt.size)++news):=hchunk hold
      refine (hch.elems fun j hj=>?_).mono (ev.D (E:=E))
      simp only [List.toList_toArray]
      have htl:(vals.toList.take (l.length*mt.size)).length=l.length*mt.size:=by rw [List.length_take];omega
      rw [List.length_append,htl] at hj
      by_cases q:j<l.length*mt.size
      · rw [writeAt_get_out _ _ _ _ (Or.inl q),List.getElem?_append_left (by omega),List.getElem?_take_of_lt q]
      · obtain ⟨d,rfl⟩:∃ d,j=l.length*mt.size+d:=⟨j-l.length*mt.size,by omega⟩
        rw [writeAt_get_in _ _ _ _ (by simpa using hfit) (by omega),List.getElem?_append_right (by omega),htl,Nat.add_sub_cancel_left]
    · refine hgrow _ cap _ hv ?_ hold (by omega) (fun τ hτ e=>by subst e;exact row_trees hτ hb1 h1 h3)
      rw [hisz]
      exact run_firstCells_some w.drew mt.size _ _ _ cap _ hold.len (by simpa using hcell)
end
end Go.Proofs.YtnohkcklakipoaaGreatDoor.Ev
namespace Go.Proofs.YtnohkcklakipoaaGreatDoor.Ev
open Go Go.RowKit
set_option linter.unusedVariables false
set_option linter.unusedSimpArgs false
variable {ρ:Type}
section
variable {P:Program} {cx:Cx} {E:Env} {w0 w:World} {μ:Lie} {st:St} {a:Act} {o:Oper} {K:V→St→Option ρ} {r:ρ}
theorem ofV_fresh {bl:List Blk} (hm:Mem E w0 w μ bl) {X:V} {v:Value} {t:Ty} {x:t.den} {need:Bool} {bs:List Nat} (hx:RepV E w μ bl X v) (hbs:∀ b,b∈rowsOf X.cells→b∈bs)
    (hn:∀ c∈X.cells,∀ fr u l,c.view bl = .sl fr u l→need=true→fr=true) (h:t.ofV false bl X=some x):ValHolds w (E.X μ bl bs need) t x v:=by
  refine ofV_sound hm hx hbs ?_
  unfold Ty.ofV at h ⊢
  cases X with
  | «at» c =>
    simp only at h ⊢
    obtain ⟨ha,h⟩:=cond_none' h
    rw [ha]
    simp only [cond_false]
    split at h
    · next y hy =>
      have hr:RepA E w μ bl c v:=by
        cases c <;> first | exact hx | (exfalso;rw [show A.view bl .undef = .undef from rfl,ofCells_undef] at hy;cases hy)
      have hv:=view_rep hm hr (bs:=bs) (fun b g e=>hbs b (by subst e;simp [V.cells,rowsOf]))
      rw [ofCells_fresh (need:=need) t [c.view bl] [v] y [] ⟨hv,trivial⟩ hy (fun c' hc' fr u l e hne=>by
        have:=List.mem_singleton.mp hc'
        subst this
        exact hn c (by simp [V.cells]) fr u l e hne)]
      exact h
    · cases h
  | agg cs =>
    simp only at h ⊢
    obtain ⟨ha,h⟩:=cond_none h
    rw [ha]
    simp only [cond_true]
    split at h
    · next y hy =>
      obtain ⟨vs,rfl,hr⟩:=hx
      have hv:=view_reps hm cs vs hr (bs:=bs) (fun c hc b g e=>hbs b (rowsOf_mem cs c hc b g e))
      rw [ofCells_fresh (need:=need) t _ vs y [] hv hy (fun c' hc' fr u l e hne=>by
        obtain ⟨c,hc,rfl⟩:=List.mem_map.mp hc'
        exact hn c hc fr u l e hne)]
      exact h
    · cases h
  | tup _=>cases h
theorem writeAt_append {α:Type}:∀ (xs ys as:List α) (off:Nat),writeAt as off (xs++ys)=writeAt (writeAt as off xs) (off+xs.length) ys
  | [],ys,as,off=>rfl
  | x :: xs,ys,as,off=>by
    rw [List.cons_append,writeAt,writeAt,writeAt_append xs ys _ (off+1)]
    congr 1
    simp;omega
theorem ValHolds.cells {S:Nat→Prop} {t:Ty} {x:t.den} {v:Value} (h:ValHolds w S t x v):Holds w S t x v.cells.toList:=by
  unfold ValHolds at h
  split at h
  · obtain ⟨vs,rfl,hh⟩:=h
    exact hh
  · have h1:=h.one v (by simp)
    have:v.cells=#[v]:=by cases v <;> first | rfl | simp [Value.oneCell'] at h1
    rw [this];exact h
theorem fillElems_sound (hR:Rel E w0 μ st a w) {e:Ty} {bs:List Nat} {need:Bool}:∀ (ps:List (Nat × Operand)) (i n:Nat) (l:List e.den),fillElems e st ps i n=some l →
    (∀ p∈ps,∀ b,b∈rowsOf (st.get p.2).cells→b∈bs)→(∀ p∈ps,∀ c∈(st.get p.2).cells,∀ fr u l,c.view st.bl = .sl fr u l→need=true→fr=true) →
    ∃ news,Chunks w (E.X μ st.bl bs need) e l news∧(l.length+i=n∧news=ps.flatMap fun p=>(a.eval p.2).cells.toList) ∧
      ∀ cells:Array Value,cells.size=n*e.size→Instr.fill (fun i=>some (i*e.size,e.size)) cells (ps.map fun p=>(p.1,a.eval p.2))=some (writeAt cells.toList (i*e.size) news).toArray
  | [],i,n,l,h,_,_=>by
    simp only [fillElems] at h
    split at h
    · next hi =>
      cases h
      exact ⟨[],⟨by simp,fun j hj=>absurd hj (Nat.not_lt_zero _)⟩,⟨by simpa using hi,rfl⟩,fun cells _=>by simp [Instr.fill,writeAt]⟩
    · cases h
  | (j,x) :: ps,i,n,l,h,hb,hn=>by
    simp only [fillElems] at h
    split at h
    case isFalse=>cases h
    next hij =>
    subst hij
    split at h
    case h_2=>cases h
    next y ys hy hys =>
    cases h
    obtain ⟨news,hch,⟨hlen,hnews⟩,hfill⟩:=fillElems_sound hR ps (i+1) n ys hys (fun p hp=>hb p (List.mem_cons_of_mem _ hp)) (fun p hp=>hn p (List.mem_cons_of_mem _ hp))
    have hv:=(ofV_fresh hR.mem (hR.get x) (hb _ (List.mem_cons_self ..)) (hn _ (List.mem_cons_self ..)) hy).cells
    have hvl:=hv.length
    have h1:Chunks w (E.X μ st.bl bs need) e [y] (a.eval x).cells.toList:=by
      refine ⟨by simpa using hvl,fun k hk=>?_⟩
      have:k=0:=by simp at hk;exact hk
      subst this
      simp only [Nat.zero_mul,List.drop_zero,List.getElem_cons_zero]
      rw [List.take_of_length_le (by omega)]
      exact hv
    refine ⟨(a.eval x).cells.toList++news,h1.append hch,⟨by simp;omega,by rw [List.flatMap_cons,← hnews]⟩,fun cells hsz=>?_⟩
    have hvs:(a.eval x).cells.size=e.size:=by rw [← hvl,Array.length_toList]
    have hi:i*e.size+e.size≤n*e.size:=by
      have:(i+1)*e.size≤n*e.size:=Nat.mul_le_mul_right _ (by omega)
      rw [Nat.add_mul] at this;omega
    have hcond:((a.eval x).cells.size≠e.size||decide (i*e.size+(a.eval x).cells.size>cells.size))=false:=by
      rw [hvs,hsz]
      simp;omega
    have hfold:=fold_writeAt (a.eval x).cells.toList cells (i*e.size) 0
    rw [Nat.add_zero] at hfold
    have hz:(a.eval x).cells.zipIdx.foldl (fun cs (p:Value × Nat)=>cs.setIfInBounds (i*e.size+p.2) p.1) cells=(writeAt cells.toList (i*e.size) (a.eval x).cells.toList).toArray:=by
      rw [← Array.foldl_toList,Array.toList_zipIdx]
      exact hfold
    rw [List.map_cons,Instr.fill]
    simp only
    rw [show (decide ((a.eval x).cells.size≠e.size)||decide (i*e.size+(a.eval x).cells.size>cells.size))=false from hcond]
    simp only [Bool.false_eq_true,if_false]
    rw [hz,hfill _ (by simp [writeAt_length,hsz])]
    simp only [List.toList_toArray]
    rw [writeAt_append,hvl,Nat.add_mul,Nat.one_mul]
theorem newAlone_append {bl:List Blk}:∀ (xs ys:List A),newAlone bl (xs++ys)=(newAlone bl xs&&newAlone bl ys)
  | [],ys=>rfl
  | x :: xs,ys=>by simp only [List.cons_append,newAlone,newAlone_append xs ys,Bool.and_assoc]
theorem newAlone_flat {bl:List Blk} {α:Type} (f:α→List A):∀ (ps:List α),newAlone bl (ps.flatMap f)=true→∀ p∈ps,newAlone bl (f p)=true
  | [],_,p,h=>by simp at h
  | q :: ps,hn,p,h=>by
    rw [List.flatMap_cons,newAlone_append,Bool.and_eq_true] at hn
    rcases List.mem_cons.mp h with rfl | h
    · exact hn.1
    · exact newAlone_flat f ps hn.2 p h
theorem run_buildSlice {t u:TypeId} {e:Ty} (hu:P.underlying t=some (.slice u)) (hte:TyOf P u e) {n:Nat} (hbig:n*e.size≤16777216) {parts:Array (Nat × Value)} {Z cells:Array Value}
    (hZ:Z=if n*e.size=0 then #[] else (zeroVals e).toArray) (hf:Instr.fill (fun i=>some (i*e.size,e.size)) ((Array.range (n*e.size)).map (Z[· % Z.size]!)) parts.toList=some cells) :
    (Instr.buildSlice t n parts).run P w = .ok (.slice (some ⟨w.heap.size,0,none⟩) n n) { w with heap:=w.heap.push (.cells cells u) }:=by
  have hb:¬ (n*e.size>2 ^ 24):=by omega
  unfold Instr.buildSlice
  simp only [Sem.run_bind,run_underlying hu,Result.andThen_ok,run_sizeOf hte,hb,if_false]
  by_cases h0:n*e.size=0
  · simp only [h0,if_true] at hZ hf ⊢
    subst hZ
    simp only [Sem.run_bind,Sem.run_pure,Result.andThen_ok,hf]
    simp [newRow]
  · simp only [h0,if_false] at hZ hf ⊢
    subst hZ
    simp only [Sem.run_bind,Sem.run_pure,Result.andThen_ok,run_zeroValue hte,zeroV_cells hte,hf]
    simp [newRow]
theorem movable_append {bl:List Blk}:∀ {xs ys:List A} {bs:List Nat},movable bl (xs++ys)=some bs→∃ b1 b2,movable bl xs=some b1∧movable bl ys=some b2∧bs=b1++b2
  | [],ys,bs,h=>⟨[],bs,rfl,h,rfl⟩
  | c :: xs,ys,bs,h=>by
    have plain:(∀ zs,movable bl (c :: zs)=movable bl zs)→∃ b1 b2,movable bl (c :: xs)=some b1∧movable bl ys=some b2∧bs=b1++b2:=by
      intro hc
      rw [List.cons_append,hc] at h
      obtain ⟨b1,b2,h1,h2,h3⟩:=movable_append h
      exact ⟨b1,b2,by rw [hc];exact h1,h2,h3⟩
    cases c with
    | os b g =>
      rw [List.cons_append] at h
      unfold movable at h
      split at h
      · next g' t l bs' hb hbs =>
        have hg:=(cond_none h).1
        replace h:=(cond_none h).2
        cases h
        obtain ⟨b1,b2,h1,h2,h3⟩:=movable_append hbs
        refine ⟨b :: b1,b2,?_,h2,by rw [h3];rfl⟩
        unfold movable
        simp only [hb,h1,hg,cond_true]
      · cases h
    | sl fr t l=>rw [List.cons_append] at h;unfold movable at h;cases h
    | old t l=>rw [List.cons_append] at h;unfold movable at h;cases h
    | nil t=>exact plain fun zs=>by conv=>lhs;unfold movable
    | int k n=>exact plain fun zs=>by conv=>lhs;unfold movable
    | bool b=>exact plain fun zs=>by conv=>lhs;unfold movable
    | str s=>exact plain fun zs=>by conv=>lhs;unfold movable
    | undef=>rw [List.cons_append] at h;unfold movable at h;cases h
    | err b=>rw [List.cons_append] at h;unfold movable at h;cases h
    | ptr b off=>rw [List.cons_append] at h;unfold movable at h;cases h
    | ep b g i off=>rw [List.cons_append] at h;unfold movable at h;cases h
    | pp fr t x off=>rw [List.cons_append] at h;unfold movable at h;cases h
    | fn f caps=>rw [List.cons_append] at h;unfold movable at h;cases h
theorem rowsOf_append:∀ (xs ys:List A),rowsOf (xs++ys)=rowsOf xs++rowsOf ys
  | [],ys=>rfl
  | c :: xs,ys=>by cases c <;> simp only [List.cons_append,rowsOf,rowsOf_append xs ys]
theorem rowsOf_flatMap {α:Type} (f:α→V):∀ (ps:List α),rowsOf (ps.flatMap fun p=>(f p).cells)=rowsIn (ps.map f)
  | []=>rfl
  | p :: ps=>by
    rw [List.flatMap_cons,rowsOf_append,rowsOf_flatMap f ps]
    unfold rowsIn
    rw [List.map_cons,List.flatMap_cons]
theorem ofV_tree {τ:Nat→List Nat} {bl:List Blk} (hm:Mem E w0 w μ bl) (ht:TreeOk E w μ bl τ) {X:V} {v:Value} {t:Ty} {x:t.den} (hx:RepV E w μ bl X v) (h:t.ofV false bl X=some x) {bs:List Nat} (hmv:movable bl X.cells=some bs) :
    HoldsT w t x v.cells.toList (bs.flatMap (Fof μ τ)):=by
  have done:∀ (cs:List A),X.full=some cs→X.cells=cs→t.ofCells false (cs.map (A.view bl))=some (x,[])→HoldsT w t x v.cells.toList (bs.flatMap (Fof μ τ)):=by
    intro cs hf hc hof
    have hr:=full_sound hx hf
    rw [hc] at hmv
    obtain ⟨⟨ps,e1,e2,e3⟩,_⟩:=moved_cells hm ht hr hmv
    obtain ⟨p1,p2,b1,b2,b3⟩:=HoldsT.ofCells t _ _ _ _ e3 hof
    have hp2:p2=[]:=by cases p2 with | nil=>rfl | cons _ _=>exact b3.elim
    subst hp2
    rw [List.append_nil] at b1
    subst b1
    rw [e1,← e2]
    exact b2
  cases X with
  | «at» y =>
    unfold Ty.ofV at h
    simp only at h
    have h:=(cond_none' h).2
    split at h
    case h_2=>cases h
    next z hz =>
    cases h
    refine done [y] ?_ rfl hz
    cases y <;> first | rfl | (simp only [A.view,ofCells_undef] at hz;cases hz)
  | agg cs =>
    unfold Ty.ofV at h
    simp only at h
    have h:=(cond_none h).2
    split at h
    case h_2=>cases h
    next z hz =>
    cases h
    exact done cs rfl rfl hz
  | tup vs=>unfold Ty.ofV at h;cases h
theorem fillElems_trees {τ:Nat→List Nat} (hR:Rel E w0 μ st a w) (ht:TreeOk E w μ st.bl τ) {e:Ty}:∀ (ps:List (Nat × Operand)) (i n:Nat) (l:List e.den) (bs:List Nat),fillElems e st ps i n=some l→movable st.bl (ps.flatMap fun p=>(st.get p.2).cells)=some bs →
    ∃ Fs,TreesOf w e l (ps.flatMap fun p=>(a.eval p.2).cells.toList) Fs∧List.flatten Fs=bs.flatMap (Fof μ τ)
  | [],i,n,l,bs,h,hb=>by
    simp only [fillElems] at h
    split at h
    · cases h
      simp only [List.flatMap_nil] at hb
      unfold movable at hb
      cases hb
      exact ⟨[],⟨rfl,fun j hj=>absurd hj (Nat.not_lt_zero _)⟩,rfl⟩
    · cases h
  | (j,x) :: ps,i,n,l,bs,h,hb=>by
    simp only [fillElems] at h
    split at h
    case isFalse=>cases h
    split at h
    case h_2=>cases h
    next y ys hy hys =>
    cases h
    rw [List.flatMap_cons] at hb
    obtain ⟨b1,b2,h1,h2,rfl⟩:=movable_append hb
    obtain ⟨Fs,f1,f2⟩:=fillElems_trees hR ht ps (i+1) n ys b2 hys h2
    have hv:=ofV_tree hR.mem ht (hR.get x) hy h1
    have hvl:(a.eval x).cells.toList.length=e.size:=by
      have:=(ofV_fresh (bs:=rowsOf (st.get x).cells) (need:=false) hR.mem (hR.get x) (fun _ h=>h) (fun _ _ _ _ _ _ q=>by cases q) hy).cells
      exact this.length
    refine ⟨(b1.flatMap (Fof μ τ)) :: Fs,?_,by rw [List.flatten_cons,f2,List.flatMap_append]⟩
    rw [List.flatMap_cons]
    refine TreesOf.append (l:=[y]) (Fs:=[b1.flatMap (Fof μ τ)]) (by simpa using hvl) ⟨rfl,fun k hk=>?_⟩ f1
    have:k=0:=by simp at hk;exact hk
    subst this
    simp only [Nat.zero_mul,List.drop_zero,List.getElem_cons_zero]
    rw [List.take_of_length_le (by omega)]
    exact hv
theorem TreeOk.snoc {bl:List Blk} {τ:Nat→List Nat} (h:TreeOk E w μ bl τ) (hm:Mem E w0 w μ bl) {w':World} (hb:Below w.heap.size w w') {blk:Blk} {m:Option (Nat × Nat)} (ev:Evo w μ bl w' (μ.put bl.length m) (bl++[blk])) {F:List Nat}
    (hn:∀ g t l,blk = .arr g true true t l→NestT w' t l m F) (hF:∀ k∈F,E.N k∧k<w'.heap.size∧¬ Own (μ.put bl.length m) (bl++[blk]) k) (hnd:F.Nodup) (hap:∀ c,Tree bl c→∀ k∈F,k ∉ τ c) :
    TreeOk E w' (μ.put bl.length m) (bl++[blk]) (fun c=>if c=bl.length then F else τ c):=by
  have hget:∀ c g t (l:List (Ty.den t)),(bl++[blk])[c]? = some (.arr g true true t l)→c≠bl.length→bl[c]? = some (.arr g true true t l):=by
    intro c g t l hc hne
    rw [getElem?_snoc] at hc
    split at hc
    · exact hc
    · first | (exact absurd hc (by simp)) | (rw [if_neg hne] at hc;exact absurd hc (by simp))
  have htree:∀ c,c≠bl.length→Tree (bl++[blk]) c→Tree bl c:=fun c hc ⟨g,t,l,q⟩=>⟨g,t,l,hget c g t l q hc⟩
  refine ⟨fun c g t l hc=>?_,fun c hc k hk=>?_,fun c hc=>?_,fun c c' hc hc' hcc k hk hk'=>?_⟩
  · by_cases e:c=bl.length
    · subst e
      rw [getElem?_snoc_last] at hc
      cases hc
      rw [if_pos rfl,Lie.put_same]
      exact hn _ _ _ rfl
    · rw [if_neg e,Lie.put_ne _ _ e]
      have hc':=hget c g t l hc e
      exact (h.nest c g t l hc').mono (fun k hk=>by have:=h.new c ⟨g,t,l,hc'⟩ k hk;exact hb.block k this.2.1) fun k d hk=>hb.block k (hm.lt (by unfold alive;rw [hc'];trivial) hk)
  · by_cases e:c=bl.length
    · rw [if_pos e] at hk;exact hF k hk
    · rw [if_neg e] at hk
      obtain ⟨h1,h2,h3⟩:=h.new c (htree c e hc) k hk
      exact ⟨h1,Nat.lt_of_lt_of_le h2 ev.size,fun ho=>h3 (ev.own k ho h2)⟩
  · by_cases e:c=bl.length
    · rw [if_pos e];exact hnd
    · rw [if_neg e];exact h.nodup c (htree c e hc)
  · by_cases e:c=bl.length
    · rw [if_pos e] at hk
      by_cases e':c'=bl.length
      · exact hcc (e.trans e'.symm)
      · rw [if_neg e'] at hk'
        exact hap c' (htree c' e' hc') k hk hk'
    · rw [if_neg e] at hk
      by_cases e':c'=bl.length
      · rw [if_pos e'] at hk'
        exact hap c (htree c e hc) k hk' hk
      · rw [if_neg e'] at hk'
        exact h.apart c c' (htree c e hc) (htree c' e' hc') hcc k hk hk'
theorem movable_tree {bl:List Blk}:∀ {cs:List A} {bs:List Nat},movable bl cs=some bs→∀ b∈bs,Tree bl b
  | [],bs,h,b,hb=>by unfold movable at h;cases h;cases hb
  | c :: cs,bs,h,b,hb=>by
    cases c with
    | os b' g =>
      unfold movable at h
      split at h
      · next g' t l bs' hbl hbs =>
        replace h:=(cond_none h).2
        cases h
        rcases List.mem_cons.mp hb with rfl | hb
        · exact ⟨_,_,_,hbl⟩
        · exact movable_tree (cs:=cs) hbs b hb
      · cases h
    | sl fr t l=>unfold movable at h;cases h
    | old t l=>unfold movable at h;cases h
    | nil t=>unfold movable at h;exact movable_tree (cs:=cs) h b hb
    | int k n=>unfold movable at h;exact movable_tree (cs:=cs) h b hb
    | bool q=>unfold movable at h;exact movable_tree (cs:=cs) h b hb
    | str s=>unfold movable at h;exact movable_tree (cs:=cs) h b hb
    | undef=>unfold movable at h;cases h
    | err q=>unfold movable at h;cases h
    | ptr q off=>unfold movable at h;cases h
    | ep q g i off=>unfold movable at h;cases h
    | pp fr t x off=>unfold movable at h;cases h
    | fn f caps=>unfold movable at h;cases h
theorem eff_buildSlice (hcx:cx.ok P) (hR:Rel E w0 μ st a w) {inl:Inl ρ} {path:List Nat} {t:TypeId} {n:Nat} {ps:Array (Nat × Operand)} (ho:o.op = .buildSlice t n ps) (h:evOp cx inl path o st K=some r):Eff P E w0 μ st a w o K r:=by
  unfold evOp at h;simp only [ho] at h
  split at h
  case h_2=>cases h
  next e he =>
  have hb:=(cond_none h).1
  replace h:=(cond_none h).2
  have hb:n*e.size≤16777216:=Nat.le_of_ble_eq_true hb
  revert h
  split
  case h_2=>intro h;cases h
  next l st' hl hf =>
  intro h
  obtain ⟨u,hu,hte⟩:=elemTy_sound hcx he
  have hpos:=e.size_pos
  obtain ⟨r1,t1,g1,o1,f1',k1⟩:=freezeAll_sound _ hR hf
  let nf:=moves st.bl (ps.toList.flatMap fun p=>(st.get p.2).cells)
  obtain ⟨news,hch,⟨hlen,hnews⟩,hfill⟩:=fillElems_sound (need:=nf) (bs:=rowsIn (ps.toList.map fun p=>st.get p.2)) hR ps.toList 0 n l hl
    (fun p hp b hbm=>by
      unfold rowsIn
      rw [List.mem_flatMap]
      exact ⟨st.get p.2,List.mem_map.mpr ⟨p,hp,rfl⟩,hbm⟩)
    (fun p hp c hc fr u' l' e' hne=>by
      have:=newAlone_get _ (newAlone_flat _ _ (moves_alone hne) p hp) c hc
      rw [e'] at this;exact this)
  rw [Nat.add_zero] at hlen
  subst hlen
  have hz:=zeroVals_length e
  obtain ⟨Z,hZ⟩:∃ Z:Array Value,Z=if l.length*e.size=0 then #[] else (zeroVals e).toArray:=⟨_,rfl⟩
  have hfl:=hfill ((Array.range (l.length*e.size)).map (Z[· % Z.size]!)) (by simp)
  rw [Nat.zero_mul,Array.toList_map,Array.toList_range] at hfl
  obtain ⟨cells,hcells⟩:∃ cells:Array Value,cells=(writeAt ((List.range (l.length*e.size)).map (Z[· % Z.size]!)) 0 news).toArray:=⟨_,rfl⟩
  rw [← hcells] at hfl
  have hcl:cells.size=l.length*e.size:=by rw [hcells];simp [writeAt_length]
  have hmap:(ps.map fun p=>(p.1,a.eval p.2)).toList=ps.toList.map fun p=>(p.1,a.eval p.2):=by simp
  have hrun:=run_buildSlice (w:=w) hu hte hb (parts:=ps.map fun p=>(p.1,a.eval p.2)) hZ (by rw [hmap];exact hfl)
  have hel:Elems w (E.D μ st'.bl nf) e l cells.toList:=by
    refine (hch.weaken fun k hk=>Env.X_D hk o1 f1').elems fun j hj=>?_
    have:=writeAt_get_in news ((List.range (l.length*e.size)).map (Z[· % Z.size]!)) 0 j (by simp [hch.len]) hj
    rw [Nat.zero_add] at this
    rw [hcells]
    exact this
  obtain ⟨m2,e2⟩:=snoc_row r1.mem (below_push w (.cells cells u)) (Nat.le_refl _) (heap_push_new w _) (unfrozen_zero _) (nf:=nf) (t:=e) (l:=l) (cap:=l.length) (Nat.le_refl _) hcl hel 0
  have htr:Trees E { w with heap:=w.heap.push (.cells cells u) } (μ.put st'.bl.length (some (w.heap.size,l.length))) (st'.bl++[.arr 0 true nf e l]):=by
    obtain ⟨τ,hτ⟩:=hR.tree
    have hτ':=hτ.freezeAll _ hf
    cases hq:nf with
    | false =>
      rw [hq] at e2
      exact Trees.snoc (E:=E) ⟨τ,hτ'⟩ r1.mem (below_push w _) e2 fun _ _ _ e=>by cases e
    | true =>
      have hq':moves st.bl (ps.toList.flatMap fun p=>(st.get p.2).cells)=true:=hq
      unfold moves at hq'
      split at hq'
      case h_2=>cases hq'
      next bs hbs =>
      have hnd:=apartAll_nodup hq'
      have hrows:∀ b,b∈bs→b∈rowsIn (ps.toList.map fun p=>st.get p.2):=by
        intro b hb
        rw [← rowsOf_flatMap (fun p:Nat × Operand=>st.get p.2),movable_rows hbs]
        exact hb
      have hbt:∀ b∈bs,Tree st.bl b:=by
        intro b hb
        exact movable_tree hbs b hb
      obtain ⟨Fs,f1,f2⟩:=fillElems_trees hR hτ ps.toList 0 _ l bs hl hbs
      rw [← hnews] at f1
      have hGn:=Fof_nodup hR.mem hτ hnd hbt
      rw [hq] at e2
      have hmemF:∀ k∈List.flatten Fs,E.N k∧k<w.heap.size∧¬ Own μ st'.bl k:=by
        intro k hk
        rw [f2] at hk
        obtain ⟨d,hd,hk⟩:=List.mem_flatMap.mp hk
        obtain ⟨h1,h2,h3⟩:=Fof_mem hR.mem hτ (hbt d hd) hk
        refine ⟨h1,h2,fun ho=>?_⟩
        rcases h3 with ⟨c2,hc2⟩ | hc2
        · obtain ⟨g3,t3,l3,q⟩:=hbt d hd
          exact f1' d (hrows d hd) k c2 hc2 ⟨_,_,_,_,_,q⟩ ho
        · exact (hτ.new d (hbt d hd) k hc2).2.2 (o1 k ho)
      refine ⟨_,hτ'.snoc r1.mem (below_push w _) e2 (F:=List.flatten Fs) (fun g' t' l' e=>?_) (fun k hk=>?_) (by rw [f2];exact hGn) (fun c hc k hk hkc=>?_)⟩
      · cases e
        refine f1.nest hch.len (heap_push_new w _) (fun j hj=>?_) fun k hk=>?_
        · have:=writeAt_get_in news ((List.range (l.length*e.size)).map (Z[· % Z.size]!)) 0 j (by simp [hch.len]) hj
          rw [Nat.zero_add] at this
          rw [hcells]
          exact this
        · exact (below_push w (.cells cells u)).block k (hmemF k hk).2.1
      · obtain ⟨h1,h2,h3⟩:=hmemF k hk
        exact ⟨h1,Nat.lt_of_lt_of_le h2 e2.size,fun ho=>h3 (e2.own k ho h2)⟩
      · rw [f2] at hk
        obtain ⟨d,hd,hk⟩:=List.mem_flatMap.mp hk
        obtain ⟨g3,t3,l3,q⟩:=hc
        obtain ⟨q1,q2⟩:=tree_backs _ hf q
        have hcb:Tree st.bl c:=⟨_,_,_,q1⟩
        have hne:d≠c:=fun e=>q2 (e ▸ hrows d hd)
        rcases (Fof_mem hR.mem hτ (hbt d hd) hk).2.2 with ⟨c2,hc2⟩ | hc2
        · exact (hτ.new c hcb k hkc).2.2 ⟨d,c2,hc2,tree_mine (hbt d hd)⟩
        · exact hτ.apart d c (hbt d hd) hcb hne k hc2 hkc
  refine ⟨_,_,_,.slice (some ⟨w.heap.size,0,none⟩) l.length l.length,_,h,?_,r1.next m2 e2 htr,t1,g1.trans (goes_snoc (bl':=[]) e2),Or.inl (by unfold execOp;simp only [ho];simp [hrun])⟩
  refine ⟨⟨rfl,by simp⟩,fun g' own nf' u' l' hb'=>?_⟩
  rw [getElem?_snoc_last] at hb'
  cases hb'
  exact ⟨Nat.le_refl _,fun _=>by rw [Lie.put_same];simp [RowVal]⟩
end
end Go.Proofs.YtnohkcklakipoaaGreatDoor.Ev
namespace Go.Proofs.YtnohkcklakipoaaGreatDoor.Ev
open Go Go.RowKit
set_option linter.unusedVariables false
set_option linter.unusedSimpArgs false
variable {ρ:Type}
def ArgsHold (w:World) (S:Nat→Prop):(ts:List Ty)→denL ts→List Value→Prop
  | [],_,[]=>True
  | t :: ts,x,v :: vs=>ValHolds w S t x.1 v∧ArgsHold w S ts x.2 vs
  | _,_,_=>False
def RowAt (w:World) (S:Nat→Prop) (t:Ty) (l:List t.den) (m:Option (Nat × Nat)):Prop :=
  (m=none∧l=[])∨∃ k cap vals ty fz,m=some (k,cap)∧w.heap[k]? = some (.cells vals ty fz)∧unfrozen vals fz∧l.length≤cap∧vals.size=cap*t.size∧Elems w S t l vals.toList
def OwnHolds (w:World) (S:Nat→Prop):(t:Ty)→t.den→List Value→List (Option (Nat × Nat))→Prop
  | .int k,n,vs,ms=>ms=[]∧Holds w S (.int k) n vs
  | .bool,b,vs,ms=>ms=[]∧Holds w S .bool b vs
  | .str,s,vs,ms=>ms=[]∧Holds w S .str s vs
  | .err,b,vs,ms=>ms=[]∧Holds w S .err b vs
  | .adr,b,vs,ms=>ms=[]∧Holds w S .adr b vs
  | .slice e,l,vs,ms=>∃ v m,vs=[v]∧ms=[m]∧RowVal m l.length v∧RowAt w S e l m
  | .pair a b,x,vs,ms=>∃ us ws m1 m2,vs=us++ws∧ms=m1++m2∧OwnHolds w S a x.1 us m1∧OwnHolds w S b x.2 ws m2
  | .struct b,x,vs,ms=>OwnHolds w S b x vs ms
def ResHold1 (w:World) (S:Nat→Prop) (t:Ty × Bool) (x:t.1.den) (v:Value) (ms:List (Option (Nat × Nat))):Prop :=
  match t.2 with
  | true=>(match t.1.isAgg with
    | true=>∃ vs:List Value,v = .agg vs.toArray∧OwnHolds w S t.1 x vs ms
    | false=>OwnHolds w S t.1 x [v] ms)
  | false=>ms=[]∧ValHolds w S t.1 x v
def ResHold (w:World) (S:Nat→Prop):(ts:List (Ty × Bool))→denR ts→List Value→List (Option (Nat × Nat))→Prop
  | [],_,[],ms=>ms=[]
  | [t],x,[v],ms=>ResHold1 w S t x v ms
  | t :: u :: r,x,v :: vs,ms=>∃ m1 m2,ms=m1++m2∧ResHold1 w S t x.1 v m1∧ResHold w S (u :: r) x.2 vs m2
  | _,_,_,_=>False
def packed:List Value→Value
  | [v]=>v
  | vs=>.tuple vs.toArray
def CSpec.S (s:CSpec) (B:Nat) (S:Nat→Prop) (ms:List (Option (Nat × Nat))) (k:Nat):Prop:=(B≤k∨(s.fresh=false∧S k))∧∀ c,some (k,c) ∉ ms
structure NewRows (B:Nat) (ms:List (Option (Nat × Nat))):Prop where
  new:∀ k c,some (k,c)∈ms→B≤k
  apart:∀ (i j k c c':Nat),ms[i]? = some (some (k,c))→ms[j]? = some (some (k,c'))→i=j
structure NewTrees (B:Nat) (w':World) (rows:List Blk) (ms:List (Option (Nat × Nat))) (Fs:List (List Nat)):Prop where
  nest:∀ i g t l,rows[i]? = some (.arr g true true t l)→NestT w' t l (ms.getD i none) (Fs.getD i [])
  new:∀ k∈Fs.flatten,B≤k∧k<w'.heap.size∧∀ c,some (k,c) ∉ ms
  nodup:Fs.flatten.Nodup
theorem NewTrees.none {B:Nat} {w':World} {rows:List Blk} {ms:List (Option (Nat × Nat))} (h:∀ i g t l,rows[i]? = some (.arr g true true t l)→NestT w' t l (ms.getD i none) []):NewTrees B w' rows ms [] :=
  ⟨fun i g t l q=>h i g t l q,fun k hk=>absurd hk (by simp),List.nodup_nil⟩
theorem nodup_getD:∀ {Fs:List (List Nat)},Fs.flatten.Nodup→∀ i,(Fs.getD i []).Nodup
  | [],_,i=>by simp
  | F :: Fs,h,i=>by
    rw [List.flatten_cons,List.nodup_append] at h
    cases i with
    | zero=>exact h.1
    | succ i=>rw [List.getD_cons_succ];exact nodup_getD h.2.1 i
theorem nodup_apart:∀ {Fs:List (List Nat)},Fs.flatten.Nodup→∀ i j k,k∈Fs.getD i []→k∈Fs.getD j []→i=j
  | [],_,i,j,k,hi,_=>by simp at hi
  | F :: Fs,h,i,j,k,hi,hj=>by
    rw [List.flatten_cons,List.nodup_append] at h
    cases i with
    | zero =>
      cases j with
      | zero=>rfl
      | succ j=>exact absurd rfl (h.2.2 k hi k (mem_flatten_getD (i:=j) hj))
    | succ i =>
      cases j with
      | zero=>exact absurd rfl (h.2.2 k hj k (mem_flatten_getD (i:=i) hi))
      | succ j=>rw [nodup_apart h.2.1 i j k hi hj]
def CSpec.post (s:CSpec) (w:World) (S:Nat→Prop) (r:denR s.res) (v:Value) (w':World):Prop :=
  Below w.heap.size w w'∧∃ vs ms,v=packed vs∧NewRows w.heap.size ms∧ResHold w' (s.S w.heap.size S ms) s.res r vs ms∧∃ Fs,NewTrees w.heap.size w' (giveRes s.fresh s.res r 0).2 ms Fs
structure CSpec.ok (P:Program) (G:World→Prop) (f:FuncId) (s:CSpec):Prop where
  fn:∃ fn,P.funcs[f]? = some fn∧fn.name ≠ "runtime.NumGoroutine" ∧ fn.body.isSome=true
  calls:∀ (w:World),G w→∀ (S:Nat→Prop) (args:List Value) (x:denL s.params) (r:denR s.res),ArgsHold w S s.params x args→s.sem x=some r →
    Calls P f args.toArray w fun e w'=>match e with | .returned v=>s.post w S r v w' | _=>False
abbrev Env.with (B k:Nat) (S:Nat→Prop) (G:World→Prop):Env:=⟨B,fun j=>B≤j∨j=k,fun _ h=>Or.inl h,S,G⟩
def PSpec.S (s:PSpec) (B:Nat) (S:Nat→Prop) (ms:List (Option (Nat × Nat))) (k:Nat):Prop:=(B≤k∨(s.fresh=false∧S k))∧∀ c,some (k,c) ∉ ms
def PSpec.post (s:PSpec) (w:World) (S:Nat→Prop) (k:Nat) (r:s.ptr.den × denR s.res) (v:Value) (w':World):Prop :=
  (Env.with w.heap.size k S fun _=>True).Apart w w'∧∃ vs ms,v=packed vs∧NewRows w.heap.size ms∧ResHold w' (s.S w.heap.size S ms) s.res r.2 vs ms∧(∃ Fs,NewTrees w.heap.size w' (giveRes s.fresh s.res r.2 0).2 ms Fs) ∧
    ∃ vals ty fz,w'.heap[k]? = some (.cells vals ty fz)∧unfrozen vals fz∧Holds w' (fun j=>(w.heap.size≤j∨S j)∧∀ c,some (j,c) ∉ ms) s.ptr r.1 vals.toList
structure PSpec.ok (P:Program) (G:World→Prop) (f:FuncId) (s:PSpec):Prop where
  fn:∃ fn,P.funcs[f]? = some fn∧fn.name ≠ "runtime.NumGoroutine" ∧ fn.body.isSome=true
  calls:∀ (w:World) (S:Nat→Prop) (k:Nat) (vals:Array Value) (ty:TypeId) (fz:Nat × Nat) (args:List Value) (x:s.ptr.den) (xs:denL s.params) (r:s.ptr.den × denR s.res),
    (∀ w',(Env.with w.heap.size k S fun _=>True).Apart w w'→G w')→w.heap[k]? = some (.cells vals ty fz)→unfrozen vals fz→¬ S k→Holds w S s.ptr x vals.toList→ArgsHold w S s.params xs args→s.sem x xs=some r →
    Calls P f (.pointer (some ⟨k,0,none⟩) :: args).toArray w fun e w'=>match e with | .returned v=>s.post w S k r v w' | _=>False
def RowWas (w:World) (t:Ty) (l:List t.den) (m:Option (Nat × Nat)):Prop :=
  (m=none∧l=[])∨∃ k cap vals ty fz,m=some (k,cap)∧w.heap[k]? = some (.cells vals ty fz)∧unfrozen vals fz∧l.length≤cap∧vals.size=cap*t.size∧∀ i,i<l.length→((vals.toList.drop (i*t.size)).take t.size).length=t.size∧∀ u∈(vals.toList.drop (i*t.size)).take t.size,u.oneCell'=true
structure RowApart (w:World) (m:Option (Nat × Nat)) (w':World):Prop where
  os:w'.os=w.os
  tape:w'.tape=w.tape
  output:w'.output=w.output
  size:w.heap.size≤w'.heap.size
  block:∀ j,j<w.heap.size→(∀ c,m≠some (j,c))→w'.heap[j]? = w.heap[j]?
def RowBecame (w:World) (t:Ty) (l:List t.den) (m:Option (Nat × Nat)) (w':World) (l':List t.den) (m':Option (Nat × Nat)):Prop :=
  (m'=none∧l'=[])∨∃ k cap V ty fz,m'=some (k,cap)∧w'.heap[k]? = some (.cells V ty fz)∧unfrozen V fz∧l'.length≤cap∧V.size=cap*t.size∧∃ sel:Nat→Option Nat,
    (∀ p (hp:p<l'.length),(∃ q,∃ hq:q<l.length,sel p=some q∧l'[p]=l[q]∧∃ k0 cap0 vals0 ty0 fz0,m=some (k0,cap0)∧w.heap[k0]? = some (.cells vals0 ty0 fz0)∧(V.toList.drop (p*t.size)).take t.size=(vals0.toList.drop (q*t.size)).take t.size) ∨
      (sel p=none∧t.flat=true∧Holds w' (fun _=>False) t l'[p] ((V.toList.drop (p*t.size)).take t.size))) ∧
    ∀ p p' q,p<l'.length→p'<l'.length→sel p=some q→sel p'=some q→p=p'
structure RSpec.ok (P:Program) (G:World→Prop) (f:FuncId) (s:RSpec):Prop where
  fn:∃ fn,P.funcs[f]? = some fn∧fn.name ≠ "runtime.NumGoroutine" ∧ fn.body.isSome=true
  calls:∀ (w:World) (S:Nat→Prop) (m:Option (Nat × Nat)) (v0:Value) (l:List s.t.den) (args:List Value) (xs:denL s.params) (l':List s.t.den),
    (∀ w',RowApart w m w'→G w')→RowWas w s.t l m→RowVal m l.length v0→(∀ k c,m=some (k,c)→¬ S k)→ArgsHold w S s.params xs args→s.sem l xs=some l' →
    Calls P f (v0 :: args).toArray w fun e w'=>match e with | .returned v=>RowApart w m w'∧∃ m',(m'=m∨∀ k c,m'=some (k,c)→w.heap.size≤k)∧RowVal m' l'.length v∧RowBecame w s.t l m w' l' m' | _=>False
structure Cx.good (P:Program) (G:World→Prop) (cx:Cx):Prop where
  ok:cx.ok P
  call:∀ f s,cx.call f=some s→s.ok P G f
  ptr:∀ f s,cx.ptr f=some s→s.ok P G f
  row:∀ f s,cx.row f=some s→s.ok P G f
  goes:∀ w w':World,G w→Below w.heap.size w w'→G w'
section
variable {P:Program} {cx:Cx} {E:Env} {w0 w:World} {μ:Lie} {st:St} {a:Act} {o:Oper} {K:V→St→Option ρ} {r:ρ}
def Lie.ext (μ:Lie) (n:Nat) (ms:List (Option (Nat × Nat))):Lie:=fun b=>if b<n then μ b else ms.getD (b-n) none
theorem Mem.snocs {bl:List Blk} (h:Mem E w0 w μ bl) {w':World} (hb:Below w.heap.size w w') (ext:List Blk) (ms:List (Option (Nat × Nat))) (hn:NewRows w.heap.size ms)
    (hrep:Evo w μ bl w' (μ.ext bl.length ms) (bl++ext)→∀ i blk,ext[i]? = some blk→RepB E w' (μ.ext bl.length ms) (bl++ext) (bl.length+i) blk) :
    Mem E w0 w' (μ.ext bl.length ms) (bl++ext)∧Evo w μ bl w' (μ.ext bl.length ms) (bl++ext):=by
  have hget:∀ b,b<bl.length→(bl++ext)[b]? = bl[b]?:=fun b hlt=>List.getElem?_append_left hlt
  have hμ:∀ b,b<bl.length→μ.ext bl.length ms b=μ b:=fun b hlt=>if_pos hlt
  have hμn:∀ b k c,¬ b<bl.length→μ.ext bl.length ms b=some (k,c)→ms[b-bl.length]? = some (some (k,c)):=by
    intro b k c hlt he
    unfold Lie.ext at he
    rw [if_neg hlt,List.getD_eq_getElem?_getD] at he
    cases hm:ms[b-bl.length]? with
    | none=>rw [hm] at he;cases he
    | some m=>rw [hm] at he;exact congrArg some he
  have hnew:∀ b k c,¬ b<bl.length→μ.ext bl.length ms b=some (k,c)→w.heap.size≤k:=fun b k c hlt he=>hn.new k c (List.mem_of_getElem? (hμn b k c hlt he))
  have hown:∀ k,Own (μ.ext bl.length ms) (bl++ext) k→k<w.heap.size→Own μ bl k:=by
    rintro k ⟨b,c,he,hm⟩ hk
    by_cases hlt:b<bl.length
    · rw [hμ b hlt] at he
      exact ⟨b,c,he,by unfold mine at hm ⊢;rwa [hget b hlt] at hm⟩
    · have:=hnew b k c hlt he;omega
  have ev:Evo w μ bl w' (μ.ext bl.length ms) (bl++ext):=by
    refine ⟨by simp,hb.size,fun b cs hlt hcs=>?_,fun b g own nf t l hlt hbl=>?_,fun k hk _=>hb.block k hk,hown⟩
    · rw [hget b hlt] at hcs
      exact ⟨⟨cs,hcs⟩,hμ b hlt⟩
    · rw [hget b hlt] at hbl
      exact ⟨g,own,nf,l,hbl,Nat.le_refl _,fun _=>⟨rfl,hμ b hlt⟩⟩
  have halive:∀ b,b<bl.length→alive (bl++ext) b→alive bl b:=fun b hlt ha=>by unfold alive at ha ⊢;rwa [hget b hlt] at ha
  refine ⟨⟨h.start,h.below.trans (.below hb),Nat.le_trans h.big hb.size,fun b blk' hbl=>?_,fun b b' k c c' h1 h2 a1 a2=>?_⟩,ev⟩
  · by_cases hlt:b<bl.length
    · rw [hget b hlt] at hbl
      cases blk' with
      | dead=>trivial
      | var cs=>exact RepB.evo ev (hμ b hlt) (fun k c hk=>hb.block k (h.lt (by simp [alive,hbl]) hk)) (h.blocks b _ hbl)
      | arr g own nf t l=>exact RepB.evo ev (hμ b hlt) (fun k c hk=>hb.block k (h.lt (by simp [alive,hbl]) hk)) (h.blocks b _ hbl)
    · rw [List.getElem?_append_right (by omega)] at hbl
      have:=hrep ev _ _ hbl
      rwa [show bl.length+(b-bl.length)=b by omega] at this
  · by_cases l1:b<bl.length <;> by_cases l2:b'<bl.length
    · rw [hμ b l1] at h1
      rw [hμ b' l2] at h2
      exact h.apart b b' k c c' h1 h2 (halive b l1 a1) (halive b' l2 a2)
    · rw [hμ b l1] at h1
      have:=hnew b' k c' l2 h2
      have:=h.lt (halive b l1 a1) h1
      omega
    · rw [hμ b' l2] at h2
      have:=hnew b k c l1 h1
      have:=h.lt (halive b' l2 a2) h2
      omega
    · have e:=hn.apart _ _ _ _ _ (hμn b k c l1 h1) (hμn b' k c' l2 h2)
      omega
theorem Trees.snocs {bl:List Blk} (ht:Trees E w μ bl) (h:Mem E w0 w μ bl) {w':World} (hb:Below w.heap.size w w') {ext:List Blk} {ms:List (Option (Nat × Nat))} (hn:NewRows w.heap.size ms) (ev:Evo w μ bl w' (μ.ext bl.length ms) (bl++ext))
    {Fs:List (List Nat)} (hT:NewTrees w.heap.size w' ext ms Fs):Trees E w' (μ.ext bl.length ms) (bl++ext):=by
  obtain ⟨τ,hτ⟩:=ht
  have hget:∀ b,b<bl.length→(bl++ext)[b]? = bl[b]?:=fun b hlt=>List.getElem?_append_left hlt
  have hμ:∀ b,b<bl.length→μ.ext bl.length ms b=μ b:=fun b hlt=>if_pos hlt
  have hμn:∀ b,¬ b<bl.length→μ.ext bl.length ms b=ms.getD (b-bl.length) none:=fun b hlt=>if_neg hlt
  have htree:∀ b,b<bl.length→Tree (bl++ext) b→Tree bl b:=fun b hlt ⟨g,t,l,q⟩=>⟨g,t,l,by rw [hget b hlt] at q;exact q⟩
  have hms:∀ i k c,ms.getD i none=some (k,c)→some (k,c)∈ms:=by
    intro i k c e
    rw [List.getD_eq_getElem?_getD] at e
    cases hm:ms[i]? with
    | none=>rw [hm] at e;cases e
    | some m=>rw [hm] at e;cases e;exact List.mem_of_getElem? hm
  refine ⟨fun b=>if b<bl.length then τ b else Fs.getD (b-bl.length) [],fun b g t l hbl=>?_,fun b hbt k hk=>?_,fun b hbt=>?_,fun b b' hbt hbt' hne k hk hk'=>?_⟩
  · by_cases hlt:b<bl.length
    · rw [if_pos hlt,hμ b hlt]
      rw [hget b hlt] at hbl
      exact (hτ.nest b g t l hbl).mono (fun k hk=>hb.block k (hτ.new b ⟨g,t,l,hbl⟩ k hk).2.1) fun k c hk=>hb.block k (h.lt (by unfold alive;rw [hbl];trivial) hk)
    · rw [if_neg hlt,hμn b hlt]
      rw [List.getElem?_append_right (by omega)] at hbl
      exact hT.nest _ g t l hbl
  · by_cases hlt:b<bl.length
    · rw [if_pos hlt] at hk
      obtain ⟨h1,h2,h3⟩:=hτ.new b (htree b hlt hbt) k hk
      exact ⟨h1,Nat.lt_of_lt_of_le h2 hb.size,fun ho=>h3 (ev.own k ho h2)⟩
    · rw [if_neg hlt] at hk
      obtain ⟨h1,h2,h3⟩:=hT.new k (mem_flatten_getD hk)
      refine ⟨E.hN _ (Nat.le_trans h.big h1),h2,?_⟩
      rintro ⟨b2,c,e,hm⟩
      by_cases hlt2:b2<bl.length
      · rw [hμ b2 hlt2] at e
        have hm':mine bl b2:=by unfold mine at hm ⊢;rwa [hget b2 hlt2] at hm
        have:=h.lt (mine_alive hm') e
        omega
      · rw [hμn b2 hlt2] at e
        exact h3 c (hms _ _ _ e)
  · by_cases hlt:b<bl.length
    · rw [if_pos hlt];exact hτ.nodup b (htree b hlt hbt)
    · rw [if_neg hlt];exact nodup_getD hT.nodup _
  · by_cases hlt:b<bl.length
    · rw [if_pos hlt] at hk
      by_cases hlt':b'<bl.length
      · rw [if_pos hlt'] at hk'
        exact hτ.apart b b' (htree b hlt hbt) (htree b' hlt' hbt') hne k hk hk'
      · rw [if_neg hlt'] at hk'
        have h1:=(hτ.new b (htree b hlt hbt) k hk).2.1
        have h2:=(hT.new k (mem_flatten_getD hk')).1
        omega
    · rw [if_neg hlt] at hk
      by_cases hlt':b'<bl.length
      · rw [if_pos hlt'] at hk'
        have h1:=(hτ.new b' (htree b' hlt' hbt') k hk').2.1
        have h2:=(hT.new k (mem_flatten_getD hk)).1
        omega
      · rw [if_neg hlt'] at hk'
        have:=nodup_apart hT.nodup _ _ k hk hk'
        omega
theorem oneRes_rows (fr:Bool) (t:Ty × Bool) (x:t.1.den) (n m:Nat):(oneRes fr t x n).2=(oneRes fr t x m).2:=by
  obtain ⟨t,b⟩:=t
  cases b <;> rfl
theorem giveRes_rows (fr:Bool):∀ (ts:List (Ty × Bool)) (x:denR ts) (n m:Nat),(giveRes fr ts x n).2=(giveRes fr ts x m).2
  | [],_,_,_=>rfl
  | [t],x,n,m=>oneRes_rows fr t x n m
  | t :: u :: r,x,n,m=>by
    show (oneRes fr t x.1 n).2++_=(oneRes fr t x.1 m).2++_
    rw [giveRes_rows fr (u :: r) x.2 (n+(oneRes fr t x.1 n).2.length) (m+(oneRes fr t x.1 m).2.length),oneRes_rows fr t x.1 n m]
theorem ownRows_length (nf:Bool):∀ (t:Ty) (x:t.den),(t.ownRows nf x).length=t.rows
  | .int _,_ | .bool,_ | .str,_ | .err,_ | .adr,_=>rfl
  | .slice e,_=>rfl
  | .pair a b,x=>by simp only [Ty.ownRows,List.length_append,Ty.rows,ownRows_length nf a,ownRows_length nf b]
  | .struct b,x=>ownRows_length nf b x
theorem OwnHolds.rows {S:Nat→Prop}:∀ {t:Ty} {x:t.den} {vs:List Value} {ms:List (Option (Nat × Nat))},OwnHolds w S t x vs ms→ms.length=t.rows
  | .int _,_,_,_,h=>by rw [h.1];rfl
  | .bool,_,_,_,h=>by rw [h.1];rfl
  | .str,_,_,_,h=>by rw [h.1];rfl
  | .err,_,_,_,h=>by rw [h.1];rfl
  | .adr,_,_,_,h=>by rw [h.1];rfl
  | .slice e,_,_,_,h=>by obtain ⟨_,_,_,rfl,_⟩:=h;rfl
  | .pair a b,x,_,_,h=>by obtain ⟨_,_,m1,m2,_,rfl,h1,h2⟩:=h;rw [List.length_append,h1.rows,h2.rows];rfl
  | .struct b,x,_,_,h=>OwnHolds.rows (t:=b) h
theorem own_sound {S:Nat→Prop} {nf:Bool} {bl:List Blk} (hB:∀ k c b,μ b=some (k,c)→(∃ g own nf t l,bl[b]? = some (.arr g own nf t l))→True):∀ {t:Ty} {x:t.den} {vs:List Value} {ms:List (Option (Nat × Nat))} (n:Nat),OwnHolds w S t x vs ms →
    (∀ i,i<t.rows→bl[n+i]? = (t.ownRows nf x)[i]? ∧ μ (n+i)=ms.getD i none)→RepAs E w μ bl (t.own x n) vs
  | .int _,_,_,_,n,h,_=>by
    have h:=h.2
    simp only [Holds] at h;subst h;exact ⟨rfl,trivial⟩
  | .bool,_,_,_,n,h,_=>by
    have h:=h.2
    simp only [Holds] at h;subst h;exact ⟨rfl,trivial⟩
  | .str,_,_,_,n,h,_=>by
    have h:=h.2
    simp only [Holds] at h;subst h;exact ⟨rfl,trivial⟩
  | .adr,_,_,_,n,h,_=>by
    have h':=h.2
    simp only [Holds] at h';obtain ⟨v,rfl,h'⟩:=h';exact ⟨h',trivial⟩
  | .err,_,_,_,n,h,_=>by
    have h':=h.2
    simp only [Holds] at h';obtain ⟨v,rfl,h'⟩:=h';exact ⟨h',trivial⟩
  | .slice e,l,_,_,n,h,hs=>by
    obtain ⟨v,m,rfl,rfl,hr,_⟩:=h
    obtain ⟨h1,h2⟩:=hs 0 (by simp [Ty.rows])
    rw [Nat.add_zero] at h1 h2
    simp only [Ty.ownRows,List.getElem?_cons_zero] at h1
    rw [List.getD_cons_zero] at h2
    refine ⟨⟨⟨?_,?_⟩,fun g' own nf' t' l' hb=>?_⟩,trivial⟩
    · unfold RowVal at hr
      split at hr
      · obtain ⟨rfl,_⟩:=hr;rfl
      · subst hr;rfl
    · rcases Nat.lt_or_ge n bl.length with q | q
      · exact q
      · rw [List.getElem?_eq_none q] at h1;cases h1
    · rw [h1] at hb
      cases hb
      exact ⟨Nat.le_refl _,fun _=>by rw [h2];exact hr⟩
  | .pair a b,x,_,_,n,h,hs=>by
    obtain ⟨us,ws,m1,m2,rfl,rfl,h1,h2⟩:=h
    have l1:=h1.rows
    have o1:=ownRows_length nf a x.1
    have p1:RepAs E w μ bl (a.own x.1 n) us:=own_sound (nf:=nf) hB n h1 (by
      intro i hi
      obtain ⟨q1,q2⟩:=hs i (by simp only [Ty.rows];omega)
      exact ⟨by rw [q1,Ty.ownRows,List.getElem?_append_left (by omega)],by rw [q2,List.getD_eq_getElem?_getD,List.getD_eq_getElem?_getD,List.getElem?_append_left (by omega)]⟩)
    have p2:RepAs E w μ bl (b.own x.2 (n+a.rows)) ws:=own_sound (nf:=nf) hB (n+a.rows) h2 (by
      intro i hi
      obtain ⟨q1,q2⟩:=hs (a.rows+i) (by simp only [Ty.rows];omega)
      rw [← Nat.add_assoc] at q1 q2
      exact ⟨by rw [q1,Ty.ownRows,List.getElem?_append_right (by omega),o1,Nat.add_sub_cancel_left],by rw [q2,List.getD_eq_getElem?_getD,List.getD_eq_getElem?_getD,List.getElem?_append_right (by omega),l1,Nat.add_sub_cancel_left]⟩)
    exact All2.append p1 p2
  | .struct b,x,_,_,n,h,hs=>own_sound hB (t:=b) n h hs
theorem own_blocks {S:Nat→Prop} {nf:Bool} {bl:List Blk} (hS:∀ k,S k→E.D μ bl nf k):∀ {t:Ty} {x:t.den} {vs:List Value} {ms:List (Option (Nat × Nat))},OwnHolds w S t x vs ms→(∀ k c,some (k,c)∈ms→E.N k) →
    ∀ i blk,(t.ownRows nf x)[i]? = some blk→∀ b,μ b=ms.getD i none→RepB E w μ bl b blk
  | .int _,_,_,_,_,_,i,blk,h,_,_=>by simp [Ty.ownRows] at h
  | .bool,_,_,_,_,_,i,blk,h,_,_=>by simp [Ty.ownRows] at h
  | .str,_,_,_,_,_,i,blk,h,_,_=>by simp [Ty.ownRows] at h
  | .err,_,_,_,_,_,i,blk,h,_,_=>by simp [Ty.ownRows] at h
  | .adr,_,_,_,_,_,i,blk,h,_,_=>by simp [Ty.ownRows] at h
  | .slice e,l,_,_,h,hB,i,blk,hi,b,hb=>by
    obtain ⟨v,m,rfl,rfl,_,hr⟩:=h
    cases i with
    | succ i=>simp [Ty.ownRows] at hi
    | zero =>
      simp only [Ty.ownRows,List.getElem?_cons_zero,Option.some.injEq] at hi
      subst hi
      rw [List.getD_cons_zero] at hb
      rcases hr with ⟨h1,h2⟩ | ⟨k,cap,vals,ty,fz,h1,h2,h3,h4,h5,h6⟩
      · exact Or.inl ⟨by rw [hb,h1],h2⟩
      · exact Or.inr ⟨k,cap,vals,ty,fz,by rw [hb,h1],hB k cap (by rw [h1];simp),h2,h3,h4,h5,fun j hj=>(h6 j hj).weaken fun k hk _=>hS k hk⟩
  | .pair a b,x,_,_,h,hB,i,blk,hi,c,hc=>by
    obtain ⟨us,ws,m1,m2,rfl,rfl,h1,h2⟩:=h
    have l1:=h1.rows
    have o1:=ownRows_length nf a x.1
    rw [Ty.ownRows] at hi
    by_cases q:i<a.rows
    · rw [List.getElem?_append_left (by omega)] at hi
      refine own_blocks hS h1 (fun k c hk=>hB k c (List.mem_append_left _ hk)) i blk hi c ?_
      rw [hc,List.getD_eq_getElem?_getD,List.getD_eq_getElem?_getD,List.getElem?_append_left (by omega)]
    · rw [List.getElem?_append_right (by omega),o1] at hi
      refine own_blocks hS h2 (fun k c hk=>hB k c (List.mem_append_right _ hk)) _ blk hi c ?_
      rw [hc,List.getD_eq_getElem?_getD,List.getD_eq_getElem?_getD,List.getElem?_append_right (by omega),l1]
  | .struct b,x,_,_,h,hB,i,blk,hi,c,hc=>own_blocks hS (t:=b) h hB i blk hi c hc
def RepR (E:Env) (w:World) (μ:Lie) (bl:List Blk) (x:Bool × List A) (u:Value):Prop :=
  match x.1 with
  | true=>∃ us:List Value,u = .agg us.toArray∧RepAs E w μ bl x.2 us
  | false=>RepAs E w μ bl x.2 [u]
theorem toValue_rep {bl:List Blk}:∀ {xs:List (Bool × List A)} {vs:List Value},All2 (RepR E w μ bl) xs vs→RepV E w μ bl (toValue xs) (packed vs)
  | [],[],h=>⟨[],rfl,trivial⟩
  | [(true,cs)],[v],h=>by obtain ⟨us,e,hr⟩:=h.1;exact ⟨us,e,hr⟩
  | [(false,[])],[v],h=>h.1.elim
  | [(false,[c])],[v],h=>RepV.at h.1.1
  | [(false,c :: d :: cs)],[v],h=>h.1.2.elim
  | x :: y :: xs,[v],h=>h.2.elim
  | [x],v :: u :: vs,h=>h.2.elim
  | x :: y :: xs,v :: u :: vs,h=>by
    have:toValue (x :: y :: xs) = .tup (x :: y :: xs):=by
      obtain ⟨b,cs⟩:=x
      cases b with
      | true=>rfl
      | false=>cases cs with
        | nil=>rfl
        | cons c cs=>cases cs <;> rfl
    rw [this]
    refine ⟨v :: u :: vs,rfl,h.imp fun p q hpq=>?_⟩
    unfold RepR at hpq
    split <;> simp_all
  | [],_ :: _,h=>h.elim
  | _ :: _,[],h=>h.elim
end
end Go.Proofs.YtnohkcklakipoaaGreatDoor.Ev
namespace Go.Proofs.YtnohkcklakipoaaGreatDoor.Ev
open Go Go.RowKit
set_option linter.unusedVariables false
set_option linter.unusedSimpArgs false
variable {ρ:Type}
section
variable {P:Program} {cx:Cx} {E:Env} {w0 w:World} {μ:Lie} {st:St} {a:Act} {o:Oper} {K:V→St→Option ρ} {r:ρ}
theorem Holds.cells' {bl:List Blk} {fr:Bool} {S:Nat→Prop} (hS:∀ k,S k→E.D μ bl fr k) {t:Ty} {x:t.den} {vs:List Value} (h:Holds w S t x vs):RepAs E w μ bl (t.cells fr x) vs :=
  Holds.cells (h.weaken fun k hk _=>hS k hk)
theorem oneRes_length {S:Nat→Prop} {fresh:Bool} {t:Ty × Bool} {x:t.1.den} {v:Value} {ms:List (Option (Nat × Nat))} (n:Nat) (h:ResHold1 w S t x v ms):(oneRes fresh t x n).2.length=ms.length:=by
  obtain ⟨t,ow⟩:=t
  cases ow with
  | false=>simp only [ResHold1] at h;rw [h.1];rfl
  | true =>
    have e:(oneRes fresh (t,true) x n).2=t.ownRows fresh x:=rfl
    rw [e,ownRows_length]
    simp only [ResHold1] at h
    split at h
    · obtain ⟨vs,_,h⟩:=h;exact h.rows.symm
    · exact h.rows.symm
theorem oneRes_sound {S:Nat→Prop} {fresh:Bool} {bl:List Blk} (hS:∀ k,S k→E.D μ bl fresh k) {t:Ty × Bool} {x:t.1.den} {v:Value} {ms:List (Option (Nat × Nat))} (n:Nat) (h:ResHold1 w S t x v ms)
    (hs:∀ i,i<ms.length→bl[n+i]? = (oneRes fresh t x n).2[i]? ∧ μ (n+i)=ms.getD i none):RepR E w μ bl (oneRes fresh t x n).1 v:=by
  obtain ⟨t,ow⟩:=t
  cases ow with
  | false =>
    simp only [ResHold1] at h
    have h:=h.2
    have e:(oneRes fresh (t,false) x n).1=(t.isAgg,t.cells fresh x):=rfl
    rw [e]
    unfold RepR
    unfold ValHolds at h
    simp only
    split at h
    · next ha=>rw [ha];obtain ⟨vs,e,hh⟩:=h;exact ⟨vs,e,hh.cells' hS⟩
    · next ha=>rw [ha];exact h.cells' hS
  | true =>
    simp only [ResHold1] at h
    have e:(oneRes fresh (t,true) x n).1=(t.isAgg,t.own x n):=rfl
    have e2:(oneRes fresh (t,true) x n).2=t.ownRows fresh x:=rfl
    rw [e2] at hs
    rw [e]
    unfold RepR
    simp only
    split at h
    · next ha =>
      obtain ⟨vs,e,hh⟩:=h
      exact ⟨vs,e,own_sound (nf:=fresh) (fun _ _ _ _ _=>trivial) n hh fun i hi=>hs i (by rw [hh.rows];exact hi)⟩
    · next ha =>
      exact own_sound (nf:=fresh) (fun _ _ _ _ _=>trivial) n h fun i hi=>hs i (by rw [h.rows];exact hi)
theorem oneRes_blocks {S:Nat→Prop} {fresh:Bool} {bl:List Blk} (hS:∀ k,S k→E.D μ bl fresh k) {t:Ty × Bool} {x:t.1.den} {v:Value} {ms:List (Option (Nat × Nat))} (n:Nat) (h:ResHold1 w S t x v ms) (hB:∀ k c,some (k,c)∈ms→E.N k) :
    ∀ i blk,(oneRes fresh t x n).2[i]? = some blk→∀ b,μ b=ms.getD i none→RepB E w μ bl b blk:=by
  intro i blk hi b hb
  obtain ⟨t,ow⟩:=t
  cases ow with
  | false=>have e2:(oneRes fresh (t,false) x n).2=[]:=rfl;rw [e2] at hi;simp at hi
  | true =>
    have e2:(oneRes fresh (t,true) x n).2=t.ownRows fresh x:=rfl
    rw [e2] at hi
    simp only [ResHold1] at h
    split at h
    · obtain ⟨vs,_,h⟩:=h;exact own_blocks hS h hB i blk hi b hb
    · exact own_blocks hS h hB i blk hi b hb
theorem giveRes_length {S:Nat→Prop} {fresh:Bool}:∀ (ts:List (Ty × Bool)) (x:denR ts) (vs:List Value) (ms:List (Option (Nat × Nat))) (n:Nat),ResHold w S ts x vs ms→(giveRes fresh ts x n).2.length=ms.length
  | [],_,[],ms,n,h=>by simp only [ResHold] at h;rw [h];rfl
  | [],_,_ :: _,ms,n,h=>h.elim
  | [t],x,[v],ms,n,h=>oneRes_length n h
  | [t],x,[],ms,n,h=>by simp only [ResHold] at h
  | [t],x,_ :: _ :: _,ms,n,h=>by simp only [ResHold] at h
  | t :: u :: r,x,[],ms,n,h=>by simp only [ResHold] at h
  | t :: u :: r,x,v :: vs,ms,n,h=>by
    obtain ⟨m1,m2,rfl,h1,h2⟩:=h
    simp only [giveRes,List.length_append]
    rw [oneRes_length n h1,giveRes_length (u :: r) x.2 vs m2 _ h2]
theorem giveRes_sound {S:Nat→Prop} {fresh:Bool} {bl:List Blk} (hS:∀ k,S k→E.D μ bl fresh k):∀ (ts:List (Ty × Bool)) (x:denR ts) (vs:List Value) (ms:List (Option (Nat × Nat))) (n:Nat),ResHold w S ts x vs ms →
    (∀ i,i<ms.length→bl[n+i]? = (giveRes fresh ts x n).2[i]? ∧ μ (n+i)=ms.getD i none)→All2 (RepR E w μ bl) (giveRes fresh ts x n).1 vs
  | [],_,[],ms,n,h,hs=>trivial
  | [],_,_ :: _,ms,n,h,hs=>h.elim
  | [t],x,[v],ms,n,h,hs=>⟨oneRes_sound hS n h hs,trivial⟩
  | [t],x,[],ms,n,h,hs=>by simp only [ResHold] at h
  | [t],x,_ :: _ :: _,ms,n,h,hs=>by simp only [ResHold] at h
  | t :: u :: r,x,[],ms,n,h,hs=>by simp only [ResHold] at h
  | t :: u :: r,x,v :: vs,ms,n,h,hs=>by
    obtain ⟨m1,m2,rfl,h1,h2⟩:=h
    have l1:=oneRes_length (fresh:=fresh) n h1
    refine ⟨oneRes_sound hS n h1 fun i hi=>?_,giveRes_sound hS (u :: r) x.2 vs m2 _ h2 fun i hi=>?_⟩
    · obtain ⟨q1,q2⟩:=hs i (by rw [List.length_append];omega)
      exact ⟨by rw [q1];simp only [giveRes];rw [List.getElem?_append_left (by omega)],by rw [q2,List.getD_eq_getElem?_getD,List.getD_eq_getElem?_getD,List.getElem?_append_left hi]⟩
    · obtain ⟨q1,q2⟩:=hs (m1.length+i) (by rw [List.length_append];omega)
      rw [← Nat.add_assoc] at q1 q2
      rw [l1]
      exact ⟨by rw [q1];simp only [giveRes];rw [List.getElem?_append_right (by omega),l1,Nat.add_sub_cancel_left],by rw [q2,List.getD_eq_getElem?_getD,List.getD_eq_getElem?_getD,List.getElem?_append_right (by omega),Nat.add_sub_cancel_left]⟩
theorem giveRes_blocks {S:Nat→Prop} {fresh:Bool} {bl:List Blk} (hS:∀ k,S k→E.D μ bl fresh k):∀ (ts:List (Ty × Bool)) (x:denR ts) (vs:List Value) (ms:List (Option (Nat × Nat))) (n:Nat),ResHold w S ts x vs ms →
    (∀ k c,some (k,c)∈ms→E.N k)→∀ i blk,(giveRes fresh ts x n).2[i]? = some blk→∀ b,μ b=ms.getD i none→RepB E w μ bl b blk
  | [],_,[],ms,n,h,hB,i,blk,hi,_,_=>by simp [giveRes] at hi
  | [],_,_ :: _,ms,n,h,hB,_,_,_,_,_=>h.elim
  | [t],x,[v],ms,n,h,hB,i,blk,hi,b,hb=>oneRes_blocks hS n h hB i blk hi b hb
  | [t],x,[],ms,n,h,hB,_,_,_,_,_=>by simp only [ResHold] at h
  | [t],x,_ :: _ :: _,ms,n,h,hB,_,_,_,_,_=>by simp only [ResHold] at h
  | t :: u :: r,x,[],ms,n,h,hB,_,_,_,_,_=>by simp only [ResHold] at h
  | t :: u :: r,x,v :: vs,ms,n,h,hB,i,blk,hi,b,hb=>by
    obtain ⟨m1,m2,rfl,h1,h2⟩:=h
    have l1:=oneRes_length (fresh:=fresh) n h1
    simp only [giveRes] at hi
    by_cases q:i<m1.length
    · rw [List.getElem?_append_left (by omega)] at hi
      refine oneRes_blocks hS n h1 (fun k c hk=>hB k c (List.mem_append_left _ hk)) i blk hi b ?_
      rw [hb,List.getD_eq_getElem?_getD,List.getD_eq_getElem?_getD,List.getElem?_append_left q]
    · rw [List.getElem?_append_right (by omega),l1] at hi
      refine giveRes_blocks hS (u :: r) x.2 vs m2 _ h2 (fun k c hk=>hB k c (List.mem_append_right _ hk)) _ blk hi b ?_
      rw [hb,List.getD_eq_getElem?_getD,List.getD_eq_getElem?_getD,List.getElem?_append_right (by omega)]
theorem argV_rep {bl:List Blk} {t:Ty} {X:V} {v:Value} (h:RepV E w μ bl X v):RepV E w μ bl (argV t X) v:=by
  unfold argV
  split
  · split
    · exact h
    · exact h
  · exact h
theorem argV_rows (t:Ty) (X:V):rowsOf (argV t X).cells=rowsOf X.cells:=by
  unfold argV
  split
  · split <;> rfl
  · rfl
theorem readArgs_sound {bl:List Blk} (hm:Mem E w0 w μ bl) {bs:List Nat}:∀ (ts:List Ty) (Xs:List V) (vs:List Value) (x:denL ts),readArgs bl ts Xs=some x→All2 (RepV E w μ bl) Xs vs→(∀ b,b∈rowsIn Xs→b∈bs) →
    ArgsHold w (E.X μ bl bs false) ts x vs
  | [],[],[],_,_,_,_=>trivial
  | [],[],_ :: _,_,_,h,_=>h.elim
  | [],_ :: _,_,_,h,_,_=>by simp [readArgs] at h
  | t :: ts,[],_,_,h,_,_=>by simp [readArgs] at h
  | t :: ts,X :: Xs,[],_,_,h,_=>h.elim
  | t :: ts,X :: Xs,v :: vs,x,h,hr,hb=>by
    simp only [readArgs] at h
    split at h
    · next y ys hy hys =>
      cases h
      refine ⟨ofV_sound hm (argV_rep hr.1) (fun b hbm=>hb b ?_) hy,readArgs_sound hm ts Xs vs ys hys hr.2 fun b hbm=>hb b ?_⟩
      · rw [argV_rows] at hbm
        unfold rowsIn;rw [List.flatMap_cons];exact List.mem_append_left _ hbm
      · unfold rowsIn;rw [List.flatMap_cons];exact List.mem_append_right _ hbm
    · cases h
def CallPost (E:Env) (w0:World) (μ:Lie) (st:St) (a:Act) (w:World) (K:V→St→Option ρ) (r:ρ) (e:Ending) (w':World):Prop :=
  match e with
  | .returned v=>∃ X st' μ',K X st'=some r∧RepV E w' μ' st'.bl X v∧Rel E w0 μ' st' a w'∧st'.tmps=st.tmps∧Goes w μ st w' μ' st'
  | _=>False
theorem evCall_sound {f:FuncId} {s:CSpec} (hs:s.ok P E.G f) (hR:Rel E w0 μ st a w) {Xs:List V} {vs:List Value} (hX:All2 (RepV E w μ st.bl) Xs vs) (h:evCall s Xs st K=some r) :
    Calls P f vs.toArray w (CallPost E w0 μ st a w K r):=by
  unfold evCall at h
  split at h
  case h_2=>cases h
  next x hx =>
  cases hsem:s.sem x with
  | none=>rw [hsem] at h;cases h
  | some y =>
    rw [hsem] at h
    simp only [Option.bind_some] at h
    split at h
    case h_2=>cases h
    next st1 h1 =>
    have key:∃ S:Nat→Prop,ArgsHold w S s.params x vs∧Rel E w0 μ st1 a w∧st1.tmps=st.tmps∧Goes w μ st w μ st1∧(s.fresh=false→∀ k,S k→E.D μ st1.bl false k):=by
      cases hf:s.fresh with
      | true =>
        rw [hf] at h1
        simp only [cond_true] at h1
        cases h1
        exact ⟨_,readArgs_sound hR.mem _ _ _ _ hx hX (fun _ h=>h),hR,rfl,Goes.refl _ _ _,fun q=>by cases q⟩
      | false =>
        rw [hf] at h1
        simp only [cond_false] at h1
        obtain ⟨r1,t1,g1,o1,f1,k1⟩:=freezeAll_sound _ hR h1
        exact ⟨_,readArgs_sound hR.mem _ _ _ _ hx hX (fun _ h=>h),r1,t1,g1,fun _ k hk=>Env.X_D hk o1 f1⟩
    obtain ⟨S,hargs,r1,t1,g1,hSD⟩:=key
    refine (hs.calls w (hR.mem.start w hR.mem.below) S vs x y hargs hsem).mono fun e w' hp=>?_
    cases e with
    | panicked c=>exact hp.elim
    | outgrown=>exact hp.elim
    | returned v =>
      obtain ⟨hb,us,ms,rfl,hn,hres,Fs,hT⟩:=hp
      have hlen:=giveRes_length (fresh:=s.fresh) s.res y us ms st1.bl.length hres
      have hD:∀ ext:List Blk,∀ k,s.S w.heap.size S ms k→E.D (μ.ext st1.bl.length ms) (st1.bl++ext) s.fresh k:=by
        rintro ext k ⟨hk,hnm⟩
        refine ⟨?_,?_⟩
        · rcases hk with hk | ⟨hf,hk⟩
          · exact Or.inl (E.hN _ (Nat.le_trans r1.mem.big hk))
          · rw [hf]
            rcases (hSD hf k hk).1 with q | ⟨_,q⟩
            · exact Or.inl q
            · exact Or.inr ⟨rfl,q⟩
        · rintro ⟨b,c,he,hm⟩
          by_cases hlt:b<st1.bl.length
          · have hm':mine st1.bl b:=by unfold mine at hm ⊢;rwa [List.getElem?_append_left hlt] at hm
            have he':μ b=some (k,c):=by unfold Lie.ext at he;rwa [if_pos hlt] at he
            rcases hk with hk | ⟨hf,hk⟩
            · have:=r1.mem.lt (mine_alive hm') he';omega
            · exact (hSD hf k hk).2 ⟨b,c,he',hm'⟩
          · unfold Lie.ext at he
            rw [if_neg hlt,List.getD_eq_getElem?_getD] at he
            cases hms:ms[b-st1.bl.length]? with
            | none=>rw [hms] at he;cases he
            | some m =>
              rw [hms] at he
              have he:m=some (k,c):=he
              subst he
              exact hnm c (List.mem_of_getElem? hms)
      have hext:∀ i,st1.bl.length≤st1.bl.length+i∧μ.ext st1.bl.length ms (st1.bl.length+i)=ms.getD i none:=by
        intro i
        refine ⟨by omega,?_⟩
        unfold Lie.ext
        rw [if_neg (by omega),Nat.add_sub_cancel_left]
      obtain ⟨m2,e2⟩:=r1.mem.snocs hb (giveRes s.fresh s.res y st1.bl.length).2 ms hn (fun ev i blk hi =>
        giveRes_blocks (hD _) s.res y us ms st1.bl.length hres (fun k c hk=>E.hN _ (Nat.le_trans r1.mem.big (hn.new k c hk))) i blk hi _ (hext i).2)
      have hrep:=giveRes_sound (hD (giveRes s.fresh s.res y st1.bl.length).2) s.res y us ms st1.bl.length hres (fun i hi=>by
        refine ⟨?_,(hext i).2⟩
        rw [List.getElem?_append_right (by omega),Nat.add_sub_cancel_left])
      rw [giveRes_rows _ _ _ 0 st1.bl.length] at hT
      exact ⟨_,_,_,h,toValue_rep hrep,r1.next m2 e2 (r1.tree.snocs r1.mem hb hn e2 hT),t1,g1.trans (goes_snoc (bl':=[]) e2)⟩
def InlOk (P:Program) (E:Env) (inl:Inl ρ):Prop :=
  ∀ (w0 w:World) (μ:Lie) (st:St) (a:Act) (path:List Nat) (f:FuncId) (Xs:List V) (vs:List Value) (K:V→St→Option ρ) (r:ρ),Rel E w0 μ st a w→All2 (RepV E w μ st.bl) Xs vs →
    inl path f Xs st K=some r→(∃ fn,P.funcs[f]? = some fn∧fn.name ≠ "runtime.NumGoroutine" ∧ fn.body.isSome=true)∧Calls P f vs.toArray w (CallPost E w0 μ st a w K r)
def OpOk (P:Program) (E:Env) (w0:World) (μ:Lie) (st:St) (a:Act) (w:World) (o:Oper) (K:V→St→Option ρ) (r:ρ):Prop :=
  ∀ (next:Act→World→Prop) (Q:Exit→Act→World→Prop),(∀ X st' μ' v w',K X st'=some r→RepV E w' μ' st'.bl X v→Rel E w0 μ' st' a w'→st'.tmps=st.tmps→Goes w μ st w' μ' st'→next (a.put o.dst v) w')→o.wp P a w next Q
theorem Eff.opOk (h:Eff P E w0 μ st a w o K r):OpOk P E w0 μ st a w o K r:=by
  intro next Q hn
  obtain ⟨X,st',μ',v,w',h1,h2,h3,h4,h5,h6⟩:=h
  unfold Oper.wp
  rcases h6 with h6 | ⟨h6,rfl⟩
  · rw [h6];exact hn X st' μ' v w' h1 h2 h3 h4 h5
  · rw [h6];exact hn _ st' μ' undef w' h1 trivial h3 h4 h5
theorem call_opOk {f:FuncId} {vs:List Value} {c:Call} (ho:o.op = .call c) (hfn:∃ fn,P.funcs[f]? = some fn∧fn.name ≠ "runtime.NumGoroutine" ∧ fn.body.isSome=true) {x:Operand} (hc:c.callee = .value x) {cs:List Value}
    (hx:a.eval x = .func (.func f) #[] cs.toArray) (hv:vs=c.args.toList.map a.eval++cs) (h:Calls P f vs.toArray w (CallPost E w0 μ st a w K r)):OpOk P E w0 μ st a w o K r:=by
  intro next Q hn
  obtain ⟨fn,h1,h2,h3⟩:=hfn
  have hrun:(execOp a.eval o).run P w = .ok (.enter f vs.toArray) w:=by
    have hb:¬ fn.body=none:=by intro hq;rw [hq] at h3;cases h3
    have harr:(c.args.map a.eval)++cs.toArray=vs.toArray:=by
      subst hv
      apply Array.ext'
      simp
    unfold execOp
    simp only [ho]
    simp [resolve,hc,hx,Deferred.ofValue,invoke,callFunc,h1,h2,hb,harr]
  unfold Oper.wp
  rw [hrun,Oper.upon_enter]
  refine h.mono fun e w' hp=>?_
  cases e with
  | returned v =>
    obtain ⟨X,st',μ',q1,q2,q3,q4,q5⟩:=hp
    exact hn X st' μ' v w' q1 q2 q3 q4 q5
  | panicked c=>exact hp.elim
  | outgrown=>exact hp.elim
end
end Go.Proofs.YtnohkcklakipoaaGreatDoor.Ev
namespace Go.Proofs.YtnohkcklakipoaaGreatDoor.Ev
open Go Go.RowKit
set_option linter.unusedVariables false
set_option linter.unusedSimpArgs false
variable {ρ:Type}
section
variable {P:Program} {cx:Cx} {E:Env} {w0 w:World} {μ:Lie} {st:St} {a:Act} {o:Oper} {K:V→St→Option ρ} {r:ρ}
theorem OwnHolds.mono {w w':World} {S:Nat→Prop} (hS:∀ k,S k→w'.heap[k]? = w.heap[k]?):∀ {t:Ty} {x:t.den} {vs:List Value} {ms:List (Option (Nat × Nat))},(∀ k c,some (k,c)∈ms→w'.heap[k]? = w.heap[k]?)→OwnHolds w S t x vs ms→OwnHolds w' S t x vs ms
  | .int _,_,_,_,_,h=>h
  | .bool,_,_,_,_,h=>h
  | .str,_,_,_,_,h=>h
  | .err,_,_,_,_,h=>h
  | .adr,_,_,_,_,h=>h
  | .slice e,l,vs,ms,hm,h=>by
    obtain ⟨v,m,h1,h2,h3,h4⟩:=h
    refine ⟨v,m,h1,h2,h3,?_⟩
    rcases h4 with h4 | ⟨k,cap,vals,ty,fz,q1,q2,q3,q4,q5,q6⟩
    · exact Or.inl h4
    · refine Or.inr ⟨k,cap,vals,ty,fz,q1,(hm k cap (by rw [h2,q1];simp)).trans q2,q3,q4,q5,fun i hi=>(q6 i hi).mono fun j hj _=>⟨hj,hS j hj⟩⟩
  | .pair a b,x,vs,ms,hm,h=>by
    obtain ⟨us,ws,m1,m2,e1,e2,h1,h2⟩:=h
    subst e2
    exact ⟨us,ws,m1,m2,e1,rfl,h1.mono hS fun k c hk=>hm k c (List.mem_append_left _ hk),h2.mono hS fun k c hk=>hm k c (List.mem_append_right _ hk)⟩
  | .struct b,x,vs,ms,hm,h=>OwnHolds.mono (t:=b) hS hm h
theorem ValHolds.mono {w w':World} {S:Nat→Prop} (hS:∀ k,S k→w'.heap[k]? = w.heap[k]?) {t:Ty} {x:t.den} {v:Value} (h:ValHolds w S t x v):ValHolds w' S t x v:=by
  unfold ValHolds at h ⊢
  split at h
  · obtain ⟨us,e,hh⟩:=h;exact ⟨us,e,hh.mono fun k hk _=>⟨hk,hS k hk⟩⟩
  · exact Holds.mono (fun k hk _=>⟨hk,hS k hk⟩) h
theorem ResHold1.mono {w w':World} {S:Nat→Prop} (hS:∀ k,S k→w'.heap[k]? = w.heap[k]?) {t:Ty × Bool} {x:t.1.den} {v:Value} {ms:List (Option (Nat × Nat))} (hm:∀ k c,some (k,c)∈ms→w'.heap[k]? = w.heap[k]?) (h:ResHold1 w S t x v ms):ResHold1 w' S t x v ms:=by
  obtain ⟨t,ow⟩:=t
  cases ow with
  | false=>exact ⟨h.1,ValHolds.mono hS h.2⟩
  | true =>
    simp only [ResHold1] at h ⊢
    split at h
    · obtain ⟨us,e,hh⟩:=h;exact ⟨us,e,hh.mono hS hm⟩
    · exact OwnHolds.mono hS hm h
theorem ResHold.mono {w w':World} {S:Nat→Prop} (hS:∀ k,S k→w'.heap[k]? = w.heap[k]?):∀ {ms:List (Option (Nat × Nat))} (hm:∀ k c,some (k,c)∈ms→w'.heap[k]? = w.heap[k]?) (ts:List (Ty × Bool)) (x:denR ts) (vs:List Value),ResHold w S ts x vs ms→ResHold w' S ts x vs ms
  | _,_,[],_,[],h=>h
  | _,_,[],_,_ :: _,h=>h.elim
  | _,hm,[t],x,[v],h=>ResHold1.mono hS hm h
  | _,_,[t],x,[],h=>by simp only [ResHold] at h
  | _,_,[t],x,_ :: _ :: _,h=>by simp only [ResHold] at h
  | _,_,t :: u :: r,x,[],h=>by simp only [ResHold] at h
  | ms,hm,t :: u :: r,x,v :: vs,h=>by
    obtain ⟨m1,m2,e,h1,h2⟩:=h
    subst e
    exact ⟨m1,m2,rfl,ResHold1.mono hS (fun k c hk=>hm k c (List.mem_append_left _ hk)) h1,ResHold.mono hS (fun k c hk=>hm k c (List.mem_append_right _ hk)) (u :: r) x.2 vs h2⟩
theorem RepR.evo {w':World} {μ':Lie} {bl bl':List Blk} (ev:Evo w μ bl w' μ' bl') {x:Bool × List A} {u:Value} (h:RepR E w μ bl x u):RepR E w' μ' bl' x u:=by
  unfold RepR at h ⊢
  split at h
  · obtain ⟨us,e,hh⟩:=h;exact ⟨us,e,All2.imp (fun _ _ hx=>ev.rep hx) hh⟩
  · exact All2.imp (fun _ _ hx=>ev.rep hx) h
theorem isEmpty_nil {α:Type} {l:List α} (h:l.isEmpty=true):l=[]:=by cases l with | nil=>rfl | cons=>cases h
theorem rowsOf_none:∀ {cs:List A},rowsOf cs=[]→∀ c∈cs,∀ b g,c ≠ .os b g:=by
  intro cs h c hc b g e
  have:=rowsOf_mem cs c hc b g e
  rw [h] at this
  cases this
theorem X_not_var {bl:List Blk} (hm:Mem E w0 w μ bl) {b k c:Nat} {cs:List A} (hb:bl[b]? = some (.var cs)) (hk:μ b=some (k,c)) {bs:List Nat} {fr:Bool}:¬ E.X μ bl bs fr k:=by
  rintro ⟨_,h⟩
  have ham:mine bl b:=by unfold mine;rw [hb];trivial
  rcases h with h | ⟨b2,c2,g,own,nf,t,l,_,h2,h3⟩
  · exact h ⟨b,c,hk,ham⟩
  · have:=hm.apart b b2 k c c2 hk h2 (mine_alive ham) (by unfold alive;rw [h3];trivial)
    subst this
    rw [hb] at h3
    cases h3
theorem frozen_var {bs:List Nat}:∀ {st st':St},freezeAll st bs=some st'→∀ {b:Nat} {cs:List A},st.bl[b]? = some (.var cs)→st'.bl[b]? = some (.var cs):=by
  induction bs with
  | nil=>intro st st' h b cs hb;simp only [freezeAll] at h;cases h;exact hb
  | cons c bs ih =>
    intro st st' h b cs hb
    simp only [freezeAll] at h
    split at h
    case h_2=>cases h
    next st1 h1 =>
    refine ih h ?_
    unfold St.freeze at h1
    split at h1
    · next g nf t l hc =>
      have h1:=(cond_none' h1).2
      cases h1
      have:b≠c:=by rintro rfl;rw [hb] at hc;cases hc
      simp only
      rw [getElem?_set_ne' this];exact hb
    · cases h1;exact hb
theorem evPtr_sound {f:FuncId} {s:PSpec} (hs:s.ok P E.G f) (hR:Rel E w0 μ st a w) {Xs:List V} {vs:List Value} (hX:All2 (RepV E w μ st.bl) Xs vs) (h:evPtr s Xs st K=some r) :
    Calls P f vs.toArray w (CallPost E w0 μ st a w K r):=by
  unfold evPtr at h
  split at h
  case h_2=>cases h
  next b Ys =>
  split at h
  case h_2=>cases h
  next cs hb =>
  have hc:=(cond_none h).1
  replace h:=(cond_none h).2
  rw [Bool.and_eq_true,Bool.not_eq_true'] at hc
  obtain ⟨hlock,hrows⟩:=hc
  have hrows:=isEmpty_nil hrows
  split at h
  case h_2=>cases h
  next x xs hx hxs =>
  cases hsem:s.sem x xs with
  | none=>rw [hsem] at h;cases h
  | some y =>
  rw [hsem] at h
  simp only [Option.bind_some] at h
  split at h
  case h_2=>cases h
  next st1 h1 =>
  cases vs with
  | nil=>exact hX.elim
  | cons v0 vs =>
  obtain ⟨hp0,hY⟩:=hX
  have hp0:isPtr μ st.bl b 0 v0:=hp0
  obtain ⟨k,c,hk,rfl⟩:=hp0.2 cs hb
  obtain ⟨k',c',vals,ty,fz,hk',hNk,hheap,hunf,hrep⟩:=hR.mem.blocks b _ hb
  rw [hk] at hk'
  cases hk'
  obtain ⟨r1,t1,g1,o1,f1,k1⟩:=freezeAll_sound _ hR h1
  have hargs:=readArgs_sound hR.mem _ _ _ _ hxs hY (bs:=rowsIn Ys) (fun _ h=>h)
  have hvar:Holds w (E.X μ st.bl [] false) s.ptr x vals.toList:=putIn_sound (bs:=[]) (need:=false) hR.mem hrep (fun c hc b g e=>absurd e (rowsOf_none hrows c hc b g)) (fun _ _ _ _ _ _ e=>by cases e) (by unfold putIn;rw [hx])
  have hX0:∀ j,E.X μ st.bl [] false j→E.X μ st.bl (rowsIn Ys) false j:=fun j hj=>⟨hj.1,hj.2.imp id fun ⟨b2,c2,g,own,nf,t,l,hm,q⟩=>absurd hm (by simp)⟩
  have hSD:∀ j,E.X μ st.bl (rowsIn Ys) false j→E.D μ st1.bl false j:=fun j hj=>Env.X_D hj o1 f1
  have hkS:¬ E.X μ st.bl (rowsIn Ys) false k:=X_not_var hR.mem hb hk
  have hb1:st1.bl[b]? = some (.var cs):=frozen_var h1 hb
  have hm1:mine st1.bl b:=by unfold mine;rw [hb1];trivial
  have hapart:∀ w',(Env.with w.heap.size k (E.X μ st.bl (rowsIn Ys) false) fun _=>True).Apart w w'→E.Apart w w':=fun w' hw=>⟨hw.os,hw.tape,hw.output,hw.size,fun j hj hn=>hw.block j hj (by
    rintro (q | q)
    · omega
    · exact hn (q ▸ hNk))⟩
  refine (hs.calls w (E.X μ st.bl (rowsIn Ys) false) k vals ty fz vs x xs y (fun w' hw=>hR.mem.start w' (hR.mem.below.trans (hapart w' hw))) hheap hunf hkS (hvar.weaken fun j hj _=>hX0 j hj) hargs hsem).mono fun e w' hp=>?_
  cases e with
  | panicked c=>exact hp.elim
  | outgrown=>exact hp.elim
  | returned v =>
  obtain ⟨hap,us,ms,rfl,hn,hres,⟨Fs,hT⟩,vals',ty',fz',hheap',hunf',hhold'⟩:=hp
  have hlt:k<w.heap.size:=heap_lt hheap
  have hlt':k<w'.heap.size:=heap_lt hheap'
  obtain ⟨w2,hw2⟩:∃ w2:World,w2={ w' with heap:=w'.heap.setIfInBounds k (.cells vals ty fz) }:=⟨_,rfl⟩
  have hw2k:w2.heap[k]? = some (.cells vals ty fz):=by rw [hw2];simp [hlt']
  have hw2o:∀ j,j≠k→w2.heap[j]? = w'.heap[j]?:=fun j hj=>by rw [hw2];exact Array.getElem?_setIfInBounds_ne (Ne.symm hj)
  have hw2s:w2.heap.size=w'.heap.size:=by rw [hw2];simp
  have hbel:Below w.heap.size w w2:=by
    refine ⟨by rw [hw2];exact hap.os,by rw [hw2];exact hap.tape,by rw [hw2];exact hap.output,by rw [hw2s];exact hap.size,fun j hj=>?_⟩
    by_cases e:j=k
    · subst e;rw [hw2k,hheap]
    · rw [hw2o j e];exact hap.block j hj (by rintro (q | q) <;> omega)
  have hS2:∀ j,s.S w.heap.size (E.X μ st.bl (rowsIn Ys) false) ms j→j≠k:=by
    rintro j ⟨q,_⟩ rfl
    rcases q with q | ⟨_,q⟩
    · omega
    · exact hkS q
  have hres2:ResHold w2 (s.S w.heap.size (E.X μ st.bl (rowsIn Ys) false) ms) s.res y.2 us ms:=by
    refine ResHold.mono (fun j hj=>hw2o j (hS2 j hj)) (fun j c hj=>hw2o j ?_) _ _ _ hres
    have:=hn.new j c hj;omega
  have hT2:NewTrees w.heap.size w2 (giveRes s.fresh s.res y.2 0).2 ms Fs:=by
    refine ⟨fun i g t l q=>(hT.nest i g t l q).mono (fun j hj=>hw2o j ?_) (fun j c hj=>hw2o j ?_),fun j hj=>?_,hT.nodup⟩
    · have:=(hT.new j (mem_flatten_getD hj)).1;omega
    · rw [List.getD_eq_getElem?_getD] at hj
      cases hq:ms[i]? with
      | none=>rw [hq] at hj;cases hj
      | some m =>
        rw [hq] at hj
        have hj:m=some (j,c):=hj
        subst hj
        have:=hn.new j c (List.mem_of_getElem? hq);omega
    · obtain ⟨q1,q2,q3⟩:=hT.new j hj
      exact ⟨q1,by rw [hw2s];exact q2,q3⟩
  have hlen:=giveRes_length (fresh:=s.fresh) s.res y.2 us ms st1.bl.length hres2
  have hDr:∀ ext:List Blk,∀ j,(w.heap.size≤j∨E.X μ st.bl (rowsIn Ys) false j)∧(∀ c,some (j,c) ∉ ms)→¬ Own (μ.ext st1.bl.length ms) (st1.bl++ext) j:=by
    rintro ext j ⟨hj,hnm⟩ ⟨b2,c2,he,hm⟩
    by_cases hlt2:b2<st1.bl.length
    · have hm':mine st1.bl b2:=by unfold mine at hm ⊢;rwa [List.getElem?_append_left hlt2] at hm
      have he':μ b2=some (j,c2):=by unfold Lie.ext at he;rwa [if_pos hlt2] at he
      rcases hj with hj | hj
      · have:=r1.mem.lt (mine_alive hm') he';omega
      · exact (hSD j hj).2 ⟨b2,c2,he',hm'⟩
    · unfold Lie.ext at he
      rw [if_neg hlt2,List.getD_eq_getElem?_getD] at he
      cases hms:ms[b2-st1.bl.length]? with
      | none=>rw [hms] at he;cases he
      | some m =>
        rw [hms] at he
        have he:m=some (j,c2):=he
        subst he
        exact hnm c2 (List.mem_of_getElem? hms)
  have hD:∀ ext:List Blk,∀ j,s.S w.heap.size (E.X μ st.bl (rowsIn Ys) false) ms j→E.D (μ.ext st1.bl.length ms) (st1.bl++ext) s.fresh j:=by
    rintro ext j ⟨hj,hnm⟩
    refine ⟨?_,hDr ext j ⟨hj.imp id (·.2),hnm⟩⟩
    rcases hj with hj | ⟨hf,hj⟩
    · exact Or.inl (E.hN _ (Nat.le_trans r1.mem.big hj))
    · rw [hf]
      rcases (hSD j hj).1 with q | ⟨_,q⟩
      · exact Or.inl q
      · exact Or.inr ⟨rfl,q⟩
  have hext:∀ i,st1.bl.length≤st1.bl.length+i∧μ.ext st1.bl.length ms (st1.bl.length+i)=ms.getD i none:=by
    intro i
    refine ⟨by omega,?_⟩
    unfold Lie.ext
    rw [if_neg (by omega),Nat.add_sub_cancel_left]
  obtain ⟨m2,e2⟩:=r1.mem.snocs hbel (giveRes s.fresh s.res y.2 st1.bl.length).2 ms hn (fun ev i blk hi =>
    giveRes_blocks (hD _) s.res y.2 us ms st1.bl.length hres2 (fun j c hj=>E.hN _ (Nat.le_trans r1.mem.big (hn.new j c hj))) i blk hi _ (hext i).2)
  have hrep2:=giveRes_sound (hD (giveRes s.fresh s.res y.2 st1.bl.length).2) s.res y.2 us ms st1.bl.length hres2 (fun i hi=>by
    refine ⟨?_,(hext i).2⟩
    rw [List.getElem?_append_right (by omega),Nat.add_sub_cancel_left])
  have tr2:Trees E w2 (μ.ext st1.bl.length ms) (st1.bl++(giveRes s.fresh s.res y.2 st1.bl.length).2):=by
    refine r1.tree.snocs r1.mem hbel hn e2 (Fs:=Fs) ?_
    rw [giveRes_rows _ _ _ st1.bl.length 0];exact hT2
  obtain ⟨ext,hexte⟩:∃ ext,ext=(giveRes s.fresh s.res y.2 st1.bl.length).2:=⟨_,rfl⟩
  rw [← hexte] at m2 e2 tr2
  rw [← hexte] at hrep2
  have hblt:b<st1.bl.length:=alive_lt (mine_alive hm1)
  have hb2:(st1.bl++ext)[b]? = some (.var cs):=by rw [List.getElem?_append_left hblt];exact hb1
  have hm2:mine (st1.bl++ext) b:=by unfold mine;rw [hb2];trivial
  have hμ2:μ.ext st1.bl.length ms b=some (k,c):=by unfold Lie.ext;rw [if_pos hblt];exact hk
  have hputE:(μ.ext st1.bl.length ms).put b (some (k,c))=μ.ext st1.bl.length ms:=Lie.put_eq hμ2.symm
  have hwt:∀ j,j<w2.heap.size→(∀ c,μ.ext st1.bl.length ms b≠some (j,c))→w'.heap[j]? = w2.heap[j]?:=fun j _ hj=>(hw2o j (by rintro rfl;exact hj c hμ2)).symm
  obtain ⟨m3,e3⟩:=m2.turn (w':=w') hb2 hm2 (some (k,c)) (blk':=.var (s.ptr.cells false y.1)) (by rw [hw2]) (by rw [hw2]) (by rw [hw2]) (by rw [hw2s];exact Nat.le_refl _) hwt (Or.inl hμ2.symm)
    (fun cs' _=>⟨⟨cs,rfl⟩,hμ2.symm⟩) (fun _ _ _ _ _ e=>by cases e) (fun ev=>by
      refine ⟨k,c,vals',ty',fz',Lie.put_same _ _ _,hNk,hheap',hunf',?_⟩
      refine Holds.cells' (S:=fun j=>(w.heap.size≤j∨E.X μ st.bl (rowsIn Ys) false j)∧∀ c,some (j,c) ∉ ms) (fun j hj=>?_) hhold'
      refine ⟨?_,fun ho=>?_⟩
      · rcases hj.1 with q | q
        · exact Or.inl (E.hN _ (Nat.le_trans r1.mem.big q))
        · exact (hSD j q).1
      · refine hDr ext j hj ?_
        obtain ⟨b2,c2,q1,q2⟩:=ho
        rw [hputE] at q1
        refine ⟨b2,c2,q1,?_⟩
        by_cases e:b2=b
        · subst e;exact hm2
        · unfold mine at q2 ⊢;rwa [getElem?_set_ne' e] at q2)
  have tr3:=tr2.turn m2 hm2 hwt e3 (fun g t l e=>by cases e)
  rw [hputE] at m3 e3 tr3
  have hset:(st1.bl++ext).set b (.var (s.ptr.cells false y.1))=st1.bl.set b (.var (s.ptr.cells false y.1))++ext:=by rw [List.set_append_left _ _ hblt]
  rw [hset] at m3 e3 tr3
  have e23:Evo w μ st1.bl w' (μ.ext st1.bl.length ms) (st1.bl.set b (.var (s.ptr.cells false y.1))++ext):=e2.trans e3
  have hgo:Goes w μ st1 w' (μ.ext st1.bl.length ms) { st1 with bl:=st1.bl.set b (.var (s.ptr.cells false y.1))++ext }:=by
    refine ⟨e23,rfl,fun b2 hb2' hlt2=>?_⟩
    have hne:b2≠b:=by
      rintro rfl
      rw [g1.lock] at hb2'
      have:st.lock.contains b2=true:=by simpa using hb2'
      rw [this] at hlock;cases hlock
    rw [List.getElem?_append_left (by simpa using hlt2),getElem?_set_ne' hne]
  rw [← hexte] at h
  exact ⟨_,{ st1 with bl:=st1.bl.set b (.var (s.ptr.cells false y.1))++ext },μ.ext st1.bl.length ms,h,toValue_rep (hrep2.imp fun p q hpq=>RepR.evo e3 hpq),r1.next m3 e23 tr3,t1,g1.trans hgo⟩
end
end Go.Proofs.YtnohkcklakipoaaGreatDoor.Ev
namespace Go.Proofs.YtnohkcklakipoaaGreatDoor.Ev
open Go Go.RowKit
set_option linter.unusedVariables false
set_option linter.unusedSimpArgs false
variable {ρ:Type}
theorem flat_nodup:∀ {L:List (List Nat)},(∀ F∈L,F.Nodup)→(∀ i j k,k∈L.getD i []→k∈L.getD j []→i=j)→L.flatten.Nodup
  | [],_,_=>List.nodup_nil
  | F :: L,h1,h2=>by
    rw [List.flatten_cons,List.nodup_append]
    refine ⟨h1 F (List.mem_cons_self ..),flat_nodup (fun G hG=>h1 G (List.mem_cons_of_mem _ hG)) fun i j k hi hj=>?_,fun x hx y hy e=>?_⟩
    · have:=h2 (i+1) (j+1) k (by simpa using hi) (by simpa using hj)
      omega
    · subst e
      obtain ⟨G,hG,hy⟩:=List.mem_flatten.mp hy
      obtain ⟨i,hi⟩:=List.getElem?_of_mem hG
      have:=h2 0 (i+1) x (by simpa using hx) (by rw [List.getD_cons_succ,List.getD_eq_getElem?_getD,hi];exact hy)
      omega
section
variable {P:Program} {cx:Cx} {E:Env} {w0 w:World} {μ:Lie} {st:St} {a:Act} {o:Oper} {K:V→St→Option ρ} {r:ρ}
theorem evRow_sound {f:FuncId} {s:RSpec} (hs:s.ok P E.G f) (hR:Rel E w0 μ st a w) {Xs:List V} {vs:List Value} (hX:All2 (RepV E w μ st.bl) Xs vs) (h:evRow s Xs st K=some r) :
    Calls P f vs.toArray w (CallPost E w0 μ st a w K r):=by
  unfold evRow at h
  split at h
  case h_2=>cases h
  next b g Ys =>
  split at h
  case h_2=>cases h
  next xs st1 hxs h1 =>
  split at h
  case h_2=>cases h
  next g' nf t l hb1 =>
  have hc:=(cond_none h).1
  replace h:=(cond_none h).2
  rw [Bool.and_eq_true,Bool.not_eq_true',beq_iff_eq] at hc
  obtain ⟨rfl,hlock⟩:=hc
  revert h
  split
  case h_2=>intro h;cases h
  next e he =>
  subst e
  intro h
  cases hsem:s.sem l xs with
  | none=>rw [hsem] at h;cases h
  | some l' =>
  rw [hsem] at h
  simp only [Option.bind_some] at h
  cases vs with
  | nil=>exact hX.elim
  | cons v0 vs =>
  obtain ⟨hp0,hY⟩:=hX
  obtain ⟨r1,t1,g1,o1,f1,k1⟩:=freezeAll_sound _ hR h1
  have hargs:=readArgs_sound hR.mem _ _ _ _ hxs hY (bs:=rowsIn Ys) (fun _ h=>h)
  have hSD:∀ j,E.X μ st.bl (rowsIn Ys) false j→E.D μ st1.bl false j:=fun j hj=>Env.X_D hj o1 f1
  have hm1:mine st1.bl b:=by unfold mine;rw [hb1]
  have hrv:RepA E w μ st1.bl (.os b g) v0:=g1.evo.rep hp0
  have hrow:=(hrv.2 _ _ _ _ _ hb1).2 rfl
  have hkS:∀ k c,μ b=some (k,c)→¬ E.X μ st.bl (rowsIn Ys) false k:=fun k c hk hx=>(hSD k hx).2 ⟨b,c,hk,hm1⟩
  have hN:∀ k c,μ b=some (k,c)→E.N k:=fun k c hk=>by
    rcases r1.mem.blocks b _ hb1 with ⟨q1,_⟩ | ⟨k',cap,vals,ty,fz,q1,q2,_⟩
    · rw [hk] at q1;cases q1
    · rw [hk] at q1;cases q1;exact q2
  have hwas:RowWas w s.t l (μ b):=by
    rcases r1.mem.blocks b _ hb1 with ⟨q1,q2⟩ | ⟨k,cap,vals,ty,fz,q1,q2,q3,q4,q5,q6,q7⟩
    · exact Or.inl ⟨q1,q2⟩
    · exact Or.inr ⟨k,cap,vals,ty,fz,q1,q3,q4,q5,q6,fun i hi=>⟨(q7 i hi).length,(q7 i hi).one⟩⟩
  have hapart:∀ w',RowApart w (μ b) w'→E.Apart w w':=fun w' hw=>⟨hw.os,hw.tape,hw.output,hw.size,fun j hj hn=>hw.block j hj fun c hc=>hn (hN j c hc)⟩
  refine (hs.calls w (E.X μ st.bl (rowsIn Ys) false) (μ b) v0 l vs xs l' (fun w' hw=>hR.mem.start w' (hR.mem.below.trans (hapart w' hw))) hwas hrow hkS hargs hsem).mono fun e w' hp=>?_
  cases e with
  | panicked c=>exact hp.elim
  | outgrown=>exact hp.elim
  | returned v =>
  obtain ⟨hap,m',hm',hv,hbe⟩:=hp
  have hw:∀ j,j<w.heap.size→(∀ c,μ b≠some (j,c))→w'.heap[j]? = w.heap[j]?:=fun j hj hne=>hap.block j hj hne
  have hme:=r1.mem.turn (w':=w') (blk':=.arr (g+1) true nf s.t l') hb1 hm1 m' hap.os hap.tape hap.output hap.size hw (hm'.imp id fun q=>q) (fun cs q=>by cases q)
    (fun g2 own nf2 u l2 q=>by cases q;exact ⟨g,true,nf,l,rfl,Nat.le_succ _,fun q=>by omega⟩) (fun ev=>by
      rcases hbe with ⟨q1,q2⟩ | ⟨k,cap,V,ty,fz,q1,q2,q3,q4,q5,sel,q6,q7⟩
      · exact Or.inl ⟨by rw [Lie.put_same];exact q1,q2⟩
      · refine Or.inr ⟨k,cap,V,ty,fz,by rw [Lie.put_same];exact q1,?_,q2,q3,q4,q5,fun p hp=>?_⟩
        · rcases hm' with q | q
          · exact hN k cap (by rw [← q];exact q1)
          · exact E.hN _ (Nat.le_trans r1.mem.big (q k cap q1))
        · rcases q6 p hp with ⟨q,hq,e1,e2,e3⟩ | ⟨e0,e1,e2⟩
          · have hpart:∃ k0 cap0 vals0 ty0 fz0,μ b=some (k0,cap0)∧w.heap[k0]? = some (.cells vals0 ty0 fz0)∧(V.toList.drop (p*s.t.size)).take s.t.size=(vals0.toList.drop (q*s.t.size)).take s.t.size:=e3
            obtain ⟨k0,cap0,vals0,ty0,fz0,f1,f2,f3⟩:=hpart
            rcases r1.mem.blocks b _ hb1 with ⟨p1,p2⟩ | ⟨k2,cap2,vals2,ty2,fz2,p1,p2,p3,p4,p5,p6,p7⟩
            · rw [f1] at p1;cases p1
            · rw [f1] at p1
              cases p1
              rw [f2] at p3
              cases p3
              rw [f3,e2]
              exact (p7 q hq).mono (ev.D (E:=E))
          · exact e2.flat e1)
  have htr:Trees E w' (μ.put b m') (st1.bl.set b (.arr (g+1) true nf s.t l')):=by
    cases hnf:nf with
    | false =>
      rw [hnf] at hme
      exact r1.tree.turn r1.mem hm1 hw hme.2 fun _ _ _ q=>by cases q
    | true =>
      rw [hnf] at hme hb1
      obtain ⟨τ,hτ⟩:=r1.tree
      have hT:Tree st1.bl b:=⟨g,s.t,l,hb1⟩
      rcases hbe with ⟨q1,q2⟩ | ⟨k,cap,V,ty,fz,q1,q2,q3,q4,q5,sel,q6,q7⟩
      · exact ⟨_,hτ.turn r1.mem hm1 hw hme.2 (F:=[]) (fun g' t' l2 e=>by cases e;exact Or.inl ⟨q2,rfl⟩) (fun k hk=>by cases hk) List.nodup_nil fun _ _ _ k hk=>by cases hk⟩
      · rcases hτ.nest b _ _ _ hb1 with ⟨n1,n2⟩ | ⟨k0,cap0,vals0,ty0,fz0,Fs,n1,n2,n3,n4,n5⟩
        · -- no element was there
          refine ⟨_,hτ.turn r1.mem hm1 hw hme.2 (F:=[]) (fun g' t' l2 e=>?_) (fun k hk=>by cases hk) List.nodup_nil fun _ _ _ k hk=>by cases hk⟩
          cases e
          refine NestT.none q1 q2 fun p hp=>?_
          rcases q6 p hp with ⟨q,hq,_⟩ | ⟨e0,e1,e2⟩
          · rw [n1] at hq;simp at hq
          · exact e2.tree e1
        · obtain ⟨Fs',hFs'⟩:∃ Fs',Fs'=(List.range l'.length).map fun p=>match sel p with | some q=>Fs.getD q [] | none=>[]:=⟨_,rfl⟩
          have hget:∀ p,p<l'.length→Fs'.getD p []=match sel p with | some q=>Fs.getD q [] | none=>[]:=fun p hp=>by
            rw [hFs',List.getD_eq_getElem?_getD,List.getElem?_map,List.getElem?_range hp];rfl
          have hlen':Fs'.length=l'.length:=by rw [hFs'];simp
          have hsub:∀ j∈Fs'.flatten,j∈τ b:=by
            intro j hj
            obtain ⟨F,hF,hj⟩:=List.mem_flatten.mp hj
            rw [hFs'] at hF
            obtain ⟨p,hp,rfl⟩:=List.mem_map.mp hF
            cases hsp:sel p with
            | none=>rw [hsp] at hj;cases hj
            | some q=>rw [hsp] at hj;rw [n3];exact mem_flatten_getD hj
          have hnd:=hτ.nodup b hT
          rw [n3] at hnd
          refine ⟨_,hτ.turn r1.mem hm1 hw hme.2 (F:=Fs'.flatten) (fun g' t' l2 e=>?_) (fun j hj=>?_) ?_ (fun c hc hTc j hj hjc=>?_)⟩
          · cases e
            refine Or.inr ⟨k,cap,V,ty,fz,Fs',q1,q2,rfl,hlen',fun p hp=>?_⟩
            rw [hget p hp]
            rcases q6 p hp with ⟨q,hq,e1,e2,e3⟩ | ⟨e0,e1,e2⟩
            · obtain ⟨k2,cap2,vals2,ty2,fz2,f1,f2,f3⟩:=e3
              rw [n1] at f1
              cases f1
              rw [n2] at f2
              cases f2
              rw [e1,f3,e2]
              exact (n5 q hq).mono fun j hj=>by
                have:=hτ.new b hT j (by rw [n3];exact mem_flatten_getD hj)
                exact hap.block j this.2.1 fun c hc=>this.2.2 ⟨b,c,hc,hm1⟩
            · rw [e0];exact e2.tree e1
          · obtain ⟨p1,p2,p3⟩:=hτ.new b hT j (hsub j hj)
            exact ⟨p1,Nat.lt_of_lt_of_le p2 hap.size,fun ho=>p3 (hme.2.own j ho p2)⟩
          · refine flat_nodup (fun F hF=>?_) fun i j x hi hj=>?_
            · rw [hFs'] at hF
              obtain ⟨p,hp,rfl⟩:=List.mem_map.mp hF
              cases hsp:sel p with
              | none=>exact List.nodup_nil
              | some q=>exact nodup_getD hnd q
            · have lt:∀ i,x∈Fs'.getD i []→i<l'.length:=fun i hi=>by
                rcases Nat.lt_or_ge i l'.length with q | q
                · exact q
                · rw [List.getD_eq_getElem?_getD,List.getElem?_eq_none (by rw [hlen'];exact q)] at hi;cases hi
              have li:=lt i hi
              have lj:=lt j hj
              rw [hget i li] at hi
              rw [hget j lj] at hj
              cases si:sel i with
              | none=>rw [si] at hi;cases hi
              | some qi =>
              cases sj:sel j with
              | none=>rw [sj] at hj;cases hj
              | some qj =>
              rw [si] at hi
              rw [sj] at hj
              have:=nodup_apart hnd qi qj x hi hj
              subst this
              exact q7 i j qi li lj si sj
          · exact hτ.apart b c hT hTc (Ne.symm hc) j (hsub j hj) hjc
  have hlt1:b<st1.bl.length:=alive_lt (mine_alive hm1)
  refine ⟨_,_,_,h,?_,r1.next hme.1 hme.2 htr,t1,g1.trans (goes_set hlock hme.2)⟩
  refine RepV.at (x:=.os b (g+1)) ⟨⟨?_,by simpa using hlt1⟩,fun g2 own nf2 u l2 hb2=>?_⟩
  · unfold RowVal at hv
    split at hv
    · obtain ⟨rfl,_⟩:=hv;rfl
    · subst hv;rfl
  · have hself:=getElem?_set_self (y:=Blk.arr (g+1) true nf s.t l') hb1
    rw [show (st1.bl.set b (Blk.arr (g+1) true nf s.t l'))[b]? = _ from hself] at hb2
    cases hb2
    exact ⟨Nat.le_refl _,fun _=>by rw [Lie.put_same];exact hv⟩
end
end Go.Proofs.YtnohkcklakipoaaGreatDoor.Ev
namespace Go.Proofs.YtnohkcklakipoaaGreatDoor.Ev
open Go Go.RowKit
set_option linter.unusedVariables false
set_option linter.unusedSimpArgs false
section
variable {E:Env} {w0 w:World} {μ:Lie} {st:St} {a:Act} {bl:List Blk}
theorem swap_get {b0 b2:Nat} {x:Blk} (h0:b0<bl.length) (h2:b2<bl.length) (hne:b0≠b2) (b:Nat):((bl.set b0 x).set b2 .dead)[b]? = if b=b2 then some .dead else if b=b0 then some x else bl[b]?:=by
  by_cases e2:b=b2
  · subst e2
    rw [if_pos rfl,List.getElem?_set_self (by simpa using h2)]
  · rw [if_neg e2,List.getElem?_set_ne (Ne.symm e2)]
    by_cases e0:b=b0
    · subst e0
      rw [if_pos rfl,List.getElem?_set_self h0]
    · rw [if_neg e0,List.getElem?_set_ne (Ne.symm e0)]
theorem swap1_sound (hm:Mem E w0 w μ bl) (ht:Trees E w μ bl) {lock:List Nat} {o c c':A} {bl':List Blk} (h:swap1 lock bl o c=some (c',bl')) :
    ∃ μ',Mem E w0 w μ' bl'∧Evo w μ bl w μ' bl'∧Trees E w μ' bl'∧bl'.length=bl.length∧(∀ v,RepA E w μ bl c v→RepA E w μ' bl' c' v)∧(∀ b,b∈lock→bl'[b]? = bl[b]?)∧(∀ (b:Nat) (cs:List A),bl[b]? = some (Blk.var cs)→bl'[b]? = some (Blk.var cs)):=by
  unfold swap1 at h
  split at h
  case h_2=>cases h
  next b0 g0 b2 g2 =>
  split at h
  case h_2=>cases h
  next g0' nf0 t0 l0 g2' nf t l hb0 hb2 =>
  revert h
  split
  case h_2=>intro h;cases h
  next e he =>
  have e:=e
  subst e
  intro h
  have hc:=(cond_none h).1
  replace h:=(cond_none h).2
  cases h
  simp only [Bool.and_eq_true,Bool.not_eq_true',beq_iff_eq,beq_eq_false_iff_ne] at hc
  obtain ⟨⟨⟨rfl,hne⟩,hl0⟩,hl2⟩:=hc
  have hl0':b0 ∉ lock:=by simpa using hl0
  have hl2':b2 ∉ lock:=by simpa using hl2
  have lt0:b0<bl.length:=by
    rcases Nat.lt_or_ge b0 bl.length with q | q
    · exact q
    · rw [List.getElem?_eq_none q] at hb0;cases hb0
  have lt2:b2<bl.length:=by
    rcases Nat.lt_or_ge b2 bl.length with q | q
    · exact q
    · rw [List.getElem?_eq_none q] at hb2;cases hb2
  have hget:=swap_get (bl:=bl) (x:=.arr (g0'+1) true nf t0 l) lt0 lt2 hne
  obtain ⟨bl',hbl'⟩:∃ bl',bl'=(bl.set b0 (.arr (g0'+1) true nf t0 l)).set b2 .dead:=⟨_,rfl⟩
  rw [← hbl'] at hget ⊢
  have m2:mine bl b2:=by unfold mine;rw [hb2]
  have m0:mine bl b0:=by unfold mine;rw [hb0]
  obtain ⟨μ',hμ'⟩:∃ μ':Lie,μ'=μ.put b0 (μ b2):=⟨_,rfl⟩
  have p0:μ' b0=μ b2:=by rw [hμ'];exact Lie.put_same _ _ _
  have pn:∀ b,b≠b0→μ' b=μ b:=fun b hb=>by rw [hμ'];exact Lie.put_ne _ _ hb
  have hmine:∀ b,mine bl' b→(b=b0∨(b≠b0∧b≠b2∧mine bl b)):=by
    intro b hb
    by_cases e0:b=b0
    · exact Or.inl e0
    · by_cases e2:b=b2
      · unfold mine at hb
        rw [hget,if_pos e2] at hb
        exact hb.elim
      · refine Or.inr ⟨e0,e2,?_⟩
        unfold mine at hb ⊢
        rwa [hget,if_neg e2,if_neg e0] at hb
  have halive:∀ b,alive bl' b→(b=b0∨(b≠b0∧b≠b2∧alive bl b)):=by
    intro b hb
    by_cases e0:b=b0
    · exact Or.inl e0
    · by_cases e2:b=b2
      · unfold alive at hb
        rw [hget,if_pos e2] at hb
        exact hb.elim
      · refine Or.inr ⟨e0,e2,?_⟩
        unfold alive at hb ⊢
        rwa [hget,if_neg e2,if_neg e0] at hb
  have hown:∀ k,Own μ' bl' k→Own μ bl k:=by
    rintro k ⟨b,c,h1,h2⟩
    rcases hmine b h2 with rfl | ⟨e0,_,hmb⟩
    · rw [p0] at h1;exact ⟨b2,c,h1,m2⟩
    · rw [pn b e0] at h1;exact ⟨b,c,h1,hmb⟩
  have ev:Evo w μ bl w μ' bl':=by
    refine ⟨by rw [hbl'];simp,Nat.le_refl _,fun b cs hlt hb=>?_,fun b g own nf' t' l' hlt hb=>?_,fun _ _ _=>rfl,fun k hk _=>hown k hk⟩
    · rw [hget] at hb
      split at hb
      · cases hb
      · next e2 =>
        split at hb
        · cases hb
        · next e0=>exact ⟨⟨cs,hb⟩,pn b e0⟩
    · rw [hget] at hb
      split at hb
      · cases hb
      · next e2 =>
        split at hb
        · next e0 =>
          cases hb
          subst e0
          exact ⟨g0',true,nf0,l0,hb0,Nat.le_succ _,fun q=>by omega⟩
        · next e0=>exact ⟨g,own,nf',l',hb,Nat.le_refl _,fun _=>⟨rfl,pn b e0⟩⟩
  have hD:∀ fr k,E.D μ bl fr k→E.D μ' bl' fr k:=fun fr k hk=>⟨hk.1,fun ho=>hk.2 (hown k ho)⟩
  refine ⟨μ',⟨hm.start,hm.below,hm.big,fun b blk hb=>?_,fun b b' k c c' h1 h2 a1 a2=>?_⟩,ev,?_,by rw [hbl'];simp,fun v hv=>?_,fun b hb=>?_,fun b cs hb=>?_⟩
  · rw [hget] at hb
    split at hb
    · cases hb;trivial
    · next e2 =>
      split at hb
      · next e0 =>
        cases hb
        subst e0
        rcases hm.blocks b2 _ hb2 with ⟨q1,q2⟩ | ⟨k,cap,vals,ty,fz,q1,q2,q3,q4,q5,q6,q7⟩
        · exact Or.inl ⟨by rw [p0];exact q1,q2⟩
        · exact Or.inr ⟨k,cap,vals,ty,fz,by rw [p0];exact q1,q2,q3,q4,q5,q6,fun i hi=>(q7 i hi).weaken fun k hk _=>hD _ k hk⟩
      · next e0 =>
        have hrb:=hm.blocks b blk hb
        cases blk with
        | dead=>trivial
        | var cs=>exact RepB.evo ev (pn b e0) (fun _ _ _=>rfl) hrb
        | arr g own nf' t' l'=>exact RepB.evo ev (pn b e0) (fun _ _ _=>rfl) hrb
  · rcases halive b a1 with rfl | ⟨e0,e2,al⟩ <;> rcases halive b' a2 with rfl | ⟨e0',e2',al'⟩
    · rfl
    · rw [p0] at h1
      rw [pn b' e0'] at h2
      exact absurd (hm.apart b2 b' k c c' h1 h2 (mine_alive m2) al').symm e2'
    · rw [pn b e0] at h1
      rw [p0] at h2
      exact absurd (hm.apart b b2 k c c' h1 h2 al (mine_alive m2)) e2
    · rw [pn b e0] at h1
      rw [pn b' e0'] at h2
      exact hm.apart b b' k c c' h1 h2 al al'
  · obtain ⟨τ,hτ⟩:=ht
    have htree:∀ b,Tree bl' b→(b=b0∧Tree bl b2)∨(b≠b0∧b≠b2∧Tree bl b):=by
      rintro b ⟨g,t',l',hb⟩
      rw [hget] at hb
      split at hb
      · cases hb
      · next e2 =>
        split at hb
        · next e0=>cases hb;exact Or.inl ⟨e0,_,_,_,hb2⟩
        · next e0=>exact Or.inr ⟨e0,e2,g,t',l',hb⟩
    refine ⟨fun b=>if b=b0 then τ b2 else τ b,fun b g t' l' hb=>?_,fun b hb k hk=>?_,fun b hb=>?_,fun b b' hb hb' hbb k hk hk'=>?_⟩
    · rw [hget] at hb
      split at hb
      · cases hb
      · next e2 =>
        split at hb
        · next e0 =>
          cases hb
          rw [if_pos e0,e0,p0]
          exact hτ.nest b2 _ _ _ hb2
        · next e0=>rw [if_neg e0,pn b e0];exact hτ.nest b g t' l' hb
    · rcases htree b hb with ⟨e0,hT⟩ | ⟨e0,_,hT⟩
      · rw [if_pos e0] at hk
        obtain ⟨q1,q2,q3⟩:=hτ.new b2 hT k hk
        exact ⟨q1,q2,fun ho=>q3 (hown k ho)⟩
      · rw [if_neg e0] at hk
        obtain ⟨q1,q2,q3⟩:=hτ.new b hT k hk
        exact ⟨q1,q2,fun ho=>q3 (hown k ho)⟩
    · rcases htree b hb with ⟨e0,hT⟩ | ⟨e0,_,hT⟩
      · rw [if_pos e0];exact hτ.nodup b2 hT
      · rw [if_neg e0];exact hτ.nodup b hT
    · rcases htree b hb with ⟨e0,hT⟩ | ⟨e0,e2,hT⟩ <;> rcases htree b' hb' with ⟨e0',hT'⟩ | ⟨e0',e2',hT'⟩
      · exact hbb (e0.trans e0'.symm)
      · rw [if_pos e0] at hk
        rw [if_neg e0'] at hk'
        exact hτ.apart b2 b' hT hT' (Ne.symm e2') k hk hk'
      · rw [if_neg e0] at hk
        rw [if_pos e0'] at hk'
        exact hτ.apart b b2 hT hT' e2 k hk hk'
      · rw [if_neg e0] at hk
        rw [if_neg e0'] at hk'
        exact hτ.apart b b' hT hT' hbb k hk hk'
  · have hrow:=(hv.2 _ _ _ _ _ hb2).2 rfl
    refine ⟨⟨hv.1.1,by rw [hbl'];simpa using lt0⟩,fun g' own nf' t' l' hb=>?_⟩
    rw [hget,if_neg hne,if_pos rfl] at hb
    cases hb
    exact ⟨Nat.le_refl _,fun _=>by rw [p0];exact hrow⟩
  · rw [hget,if_neg (fun q:b=b2=>hl2' (q ▸ hb)),if_neg (fun q:b=b0=>hl0' (q ▸ hb))]
  · rw [hget,if_neg (fun q=>by subst q;rw [hb2] at hb;cases hb),if_neg (fun q=>by subst q;rw [hb0] at hb;cases hb)]
    exact hb
theorem swaps_sound:∀ (os cs:List A) (us:List Value) (bl:List Blk) (μ:Lie) (lock:List Nat),Mem E w0 w μ bl→Trees E w μ bl→RepAs E w μ bl cs us →
    ∃ μ',Mem E w0 w μ' (swaps lock bl os cs).2∧Evo w μ bl w μ' (swaps lock bl os cs).2∧Trees E w μ' (swaps lock bl os cs).2∧(swaps lock bl os cs).2.length=bl.length∧RepAs E w μ' (swaps lock bl os cs).2 (swaps lock bl os cs).1 us ∧
      (∀ b,b∈lock→(swaps lock bl os cs).2[b]? = bl[b]?)∧(∀ (b:Nat) (cs':List A),bl[b]? = some (Blk.var cs')→(swaps lock bl os cs).2[b]? = some (Blk.var cs'))∧(swaps lock bl os cs).1.length=cs.length
  | [],cs,us,bl,μ,lock,hm,ht,hr=>⟨μ,by cases cs <;> exact hm,by cases cs <;> exact Evo.refl _ _ _,by cases cs <;> exact ht,by cases cs <;> rfl,by cases cs <;> exact hr,by cases cs <;> exact fun _ _=>rfl,by cases cs <;> exact fun _ _ h=>h,by cases cs <;> rfl⟩
  | o :: os,[],us,bl,μ,lock,hm,ht,hr=>⟨μ,hm,Evo.refl _ _ _,ht,rfl,hr,fun _ _=>rfl,fun _ _ h=>h,rfl⟩
  | o :: os,c :: cs,[],bl,μ,lock,hm,ht,hr=>hr.elim
  | o :: os,c :: cs,u :: us,bl,μ,lock,hm,ht,hr=>by
    unfold swaps
    cases hs:swap1 lock bl o c with
    | none =>
      simp only
      obtain ⟨μ1,q1,q2,q3,q4,q5,q6,q7,q8⟩:=swaps_sound os cs us bl μ lock hm ht hr.2
      exact ⟨μ1,q1,q2,q3,q4,⟨q2.rep hr.1,q5⟩,q6,q7,by simp [q8]⟩
    | some p =>
      obtain ⟨c',bl1⟩:=p
      simp only
      obtain ⟨μ1,p1,p2,p3,p4,p5,p6,p7⟩:=swap1_sound hm ht hs
      have hr1:RepAs E w μ1 bl1 cs us:=All2.imp (fun _ _ hx=>p2.rep hx) hr.2
      obtain ⟨μ2,q1,q2,q3,q4,q5,q6,q7,q8⟩:=swaps_sound os cs us bl1 μ1 lock p1 p3 hr1
      exact ⟨μ2,q1,p2.trans q2,q3,q4.trans p4,⟨q2.rep (p5 u hr.1),q5⟩,fun b hb=>(q6 b hb).trans (p6 b hb),fun b cs' hb=>q7 b cs' (p7 b cs' hb),by simp [q8]⟩
theorem eff_store_swap {ρ:Type} {P:Program} {cx:Cx} {o:Oper} {K:V→St→Option ρ} {r:ρ} (hcx:cx.ok P) (hR:Rel E w0 μ st a w) {t:TypeId} {ad x:Operand} (ho:o.op = .store t ad x) {ty:Ty} (ht:cx.ty t=some ty) {v cs:List A} (hv:(st.get x).full=some v) (hlen:v.length=ty.size)
    {b off:Nat} (ha:st.get ad = .at (.ptr b off)) (hb:st.bl[b]? = some (.var cs)) (h:evStore (.at (.ptr b off)) (evSwap (.at (.ptr b off)) v st).1 (evSwap (.at (.ptr b off)) v st).2 K=some r):Eff P E w0 μ st a w o K r:=by
  obtain ⟨μ1,q1,q2,q3,q4,q5,q6,q7,q8⟩:=swaps_sound (E:=E) (w0:=w0) ((cs.drop off).take v.length) v _ st.bl μ st.lock hR.mem hR.tree (full_sound (hR.get x) hv)
  unfold evSwap at h
  simp only [hb] at h
  obtain ⟨bl1,hbl1⟩:∃ bl1,bl1=(swaps st.lock st.bl ((cs.drop off).take v.length) v).2:=⟨_,rfl⟩
  obtain ⟨v1,hv1⟩:∃ v1,v1=(swaps st.lock st.bl ((cs.drop off).take v.length) v).1:=⟨_,rfl⟩
  rw [← hbl1] at h q1 q2 q3 q4 q5 q6 q7
  rw [← hv1] at h q5 q8
  have hb1:=q7 b cs hb
  have hR1:Rel E w0 μ1 { st with bl:=bl1 } a w:=hR.next q1 q2 q3
  unfold evStore at h
  simp only [hb1] at h
  have hc:=(cond_none h).1
  replace h:=(cond_none h).2
  obtain ⟨h1,h2⟩:=lock_false hc
  obtain ⟨X,st',μ',u,w',k1,k2,k3,k4,k5,k6⟩:=eff_store_vals (K:=K) (r:=r) hcx hR1 ho ht q5 (by rw [q8,hlen]) (b:=b) (off:=off) (cs:=cs) (by rw [← ha];cases ad <;> rfl) hb1 (Nat.le_of_ble_eq_true h1) h2 h
  exact ⟨X,st',μ',u,w',k1,k2,k3,k4,Goes.trans (⟨q2,rfl,fun b hb _=>q6 b hb⟩:Goes w μ st w μ1 { st with bl:=bl1 }) k5,k6⟩
end
end Go.Proofs.YtnohkcklakipoaaGreatDoor.Ev
namespace Go.Proofs.YtnohkcklakipoaaGreatDoor.Ev
open Go Go.RowKit
set_option linter.unusedVariables false
set_option linter.unusedSimpArgs false
variable {ρ:Type}
section
variable {P:Program} {cx:Cx} {E:Env} {w0 w:World} {μ:Lie} {st:St} {a:Act} {o:Oper}
theorem evOp_sound (hcx:cx.good P E.G) {inl:Inl ρ} (hinl:InlOk P E inl) {K:V→St→Option ρ} {r:ρ} {path:List Nat} (hR:Rel E w0 μ st a w) (h:evOp cx inl path o st K=some r):OpOk P E w0 μ st a w o K r:=by
  have hp:∀ {K':V→St→Option ρ},evPure cx o st (fun v=>K' v st)=some r→OpOk P E w0 μ st a w o K' r:=fun h=>(Eff.of_pure hR (evPure_sound hcx.ok hR h)).opOk
  cases ho:o.op with
  | alloc t=>exact (eff_alloc hcx.ok hR ho h).opOk
  | box t x=>exact (eff_box hcx.ok hR ho h).opOk
  | makeSlice t n c=>exact (eff_makeSlice hcx.ok hR ho h).opOk
  | buildSlice t n ps=>exact (eff_buildSlice hcx.ok hR ho h).opOk
  | assign x =>
    have h':=h
    unfold evOp at h;simp only [ho] at h
    cases hn:nilSlice x with
    | false=>rw [hn] at h;exact (Eff.of_pure hR (pure_move hR (Or.inr ho) h)).opOk
    | true =>
      rw [hn] at h
      simp only [cond_true] at h
      split at h
      · exact (eff_nil hcx.ok hR (Or.inr ho) hn h).opOk
      · cases h
  | move x =>
    unfold evOp at h;simp only [ho] at h
    cases hn:nilSlice x with
    | false=>rw [hn] at h;exact (Eff.of_pure hR (pure_move hR (Or.inl ho) h)).opOk
    | true =>
      rw [hn] at h
      simp only [cond_true] at h
      split at h
      · exact (eff_nil hcx.ok hR (Or.inl ho) hn h).opOk
      · cases h
  | store t ad x =>
    unfold evOp at h;simp only [ho] at h
    split at h
    case h_2=>cases h
    next ty cs ht hx =>
    have hlen:=(cond_none h).1
    replace h:=(cond_none h).2
    have hlen:cs.length=ty.size:=by simpa using hlen
    have plain:evStore (st.get ad) cs st K=some r→OpOk P E w0 μ st a w o K r:=by
     intro h
     unfold evStore at h
     split at h
     · next b off had =>
       split at h
       · next vs hb =>
         have hc:=(cond_none h).1
         replace h:=(cond_none h).2
         obtain ⟨h1,h2⟩:=lock_false hc
         exact (eff_store_var hcx.ok hR ho ht hx hlen had hb (Nat.le_of_ble_eq_true h1) h2 h).opOk
       · cases h
     · next b g i off had =>
       split at h
       case h_2=>cases h
       next g' nf u l hb =>
       have hc:=(cond_none h).1
       replace h:=(cond_none h).2
       simp only [Bool.and_eq_true,Bool.not_eq_true',beq_iff_eq] at hc
       obtain ⟨⟨rfl,hl⟩,hle⟩:=hc
       revert h
       split
       case h_2=>intro h;cases h
       next y st' hy hf =>
       intro h
       split at h
       case h_2=>cases h
       next g2 nf2 t2 l2 hb2 =>
       exact (eff_store_elem (own2:=true) hcx.ok hR ho ht hx hlen had hb hl (Nat.le_of_ble_eq_true hle) hy hf hb2 h).opOk
     · cases h
    cases hsw:cx.swap with
    | false=>rw [hsw] at h;exact plain h
    | true =>
      rw [hsw] at h
      simp only [cond_true] at h
      have same:(evSwap (st.get ad) cs st).1=cs→(evSwap (st.get ad) cs st).2=st→OpOk P E w0 μ st a w o K r:=fun e1 e2=>plain (by rw [e1,e2] at h;exact h)
      by_cases hp:∃ b off vs,st.get ad = .at (.ptr b off)∧st.bl[b]? = some (.var vs)
      · obtain ⟨b,off,vs,had,hb⟩:=hp
        rw [had] at h
        exact (eff_store_swap hcx.ok hR ho ht hx hlen had hb h).opOk
      · have:evSwap (st.get ad) cs st=(cs,st):=by
          unfold evSwap
          split
          · next b off had =>
            split
            · next vs hb=>exact absurd ⟨b,off,vs,had,hb⟩ hp
            · rfl
          · rfl
        exact same (by rw [this]) (by rw [this])
  | convert c d x =>
    unfold evOp at h;simp only [ho] at h
    split at h
    · next s hc hd hx=>exact (eff_bytes hcx.ok hR (inl:=inl) (path:=path) ho hc hd hx h).opOk
    · exact hp h
  | slice t x lo hi mx =>
    unfold evOp at h;simp only [ho] at h
    cases mx with
    | some m=>exact hp h
    | none =>
      simp only at h
      split at h
      · next b g hx =>
        cases hq:(cx.swap&&lo.isNone&&hi.isSome) with
        | true =>
          rw [hq,cond_true] at h
          rw [Bool.and_eq_true,Bool.and_eq_true] at hq
          cases lo with
          | some y=>simp at hq
          | none =>
            cases hi with
            | none=>simp at hq
            | some y=>exact (eff_shrink hcx.ok hR ho hx h).opOk
        | false =>
          rw [hq,cond_false] at h
          split at h
          · next st' hf=>exact (eff_slice_own hcx.ok hR ho hx hf h).opOk
          · cases h
      · refine hp ?_
        unfold evPure;simp only [ho];exact h
  | call c =>
    unfold evOp at h;simp only [ho] at h
    cases hc:c.callee with
    | builtin b =>
      rw [hc] at h
      cases b with
      | append =>
        simp only at h
        split at h
        · next x y hxy=>exact (eff_append hcx.ok hR ho hc hxy h).opOk
        · cases h
      | _=>exact hp h
    | invoke v n=>rw [hc] at h;exact hp h
    | value f =>
      rw [hc] at h
      simp only at h
      split at h
      case h_2=>cases h
      next g caps hf =>
      have hrf:=hR.get f
      rw [hf] at hrf
      obtain ⟨cs,hv,hcaps⟩:=hrf
      have hargs:All2 (RepV E w μ st.bl) (c.args.toList.map st.get++caps.map fun p=>V.at (.ptr p.1 p.2)) (c.args.toList.map a.eval++cs):=by
        refine All2.append ?_ ?_
        · have:∀ xs:List Operand,All2 (RepV E w μ st.bl) (xs.map st.get) (xs.map a.eval):=by
            intro xs
            induction xs with
            | nil=>trivial
            | cons x xs ih=>exact ⟨hR.get x,ih⟩
          exact this _
        · have:∀ (ps:List (Nat × Nat)) (us:List Value),All2 (fun (p:Nat × Nat) u=>isPtr μ st.bl p.1 p.2 u) ps us→All2 (RepV E w μ st.bl) (ps.map fun p=>V.at (.ptr p.1 p.2)) us:=by
            intro ps
            induction ps with
            | nil=>intro us h;cases us with | nil=>trivial | cons _ _=>exact h.elim
            | cons p ps ih=>intro us h;cases us with | nil=>exact h.elim | cons u us=>exact ⟨h.1,ih us h.2⟩
          exact this _ _ hcaps
      split at h
      · next s hs=>exact call_opOk ho (hcx.call g s hs).fn hc hv rfl (evCall_sound (hcx.call g s hs) hR hargs h)
      · obtain ⟨h1,h2⟩:=hinl w0 w μ st a _ g _ _ K r hR hargs h
        exact call_opOk ho h1 hc hv rfl h2
  | _=>unfold evOp at h;simp only [ho] at h;exact hp h
structure Keeps (W:List Nat) (st:St) (a:Act) (st':St) (a':Act):Prop where
  len:st'.tmps.length=st.tmps.length
  slots:∀ t,t ∉ W→st'.tmps[t]? = st.tmps[t]?
  frame:∀ t,t ∉ W→a'.tmps[t]? = a.tmps[t]?
theorem Keeps.refl (W:List Nat) (st:St) (a:Act):Keeps W st a st a:=⟨rfl,fun _ _=>rfl,fun _ _=>rfl⟩
theorem Keeps.trans {W:List Nat} {st st' st'':St} {a a' a'':Act} (h:Keeps W st a st' a') (h':Keeps W st' a' st'' a''):Keeps W st a st'' a'' :=
  ⟨h'.len.trans h.len,fun t ht=>(h'.slots t ht).trans (h.slots t ht),fun t ht=>(h'.frame t ht).trans (h.frame t ht)⟩
theorem Keeps.more {W W':List Nat} (hW:∀ t,t∈W→t∈W') {st st':St} {a a':Act} (h:Keeps W st a st' a'):Keeps W' st a st' a' :=
  ⟨h.len,fun t ht=>h.slots t fun q=>ht (hW t q),fun t ht=>h.frame t fun q=>ht (hW t q)⟩
theorem Keeps.put {W:List Nat} {st:St} {a:Act} {d:Option Tmp} (hd:∀ t,d=some t→t∈W) (x:V) (v:Value):Keeps W st a (st.put d x) (a.put d v):=by
  cases d with
  | none=>exact Keeps.refl _ _ _
  | some d =>
    refine ⟨by simp [St.put],fun t ht=>?_,fun t ht=>?_⟩
    · have:t≠d:=fun e=>ht (e ▸ hd d rfl)
      simp only [St.put]
      rw [List.getElem?_set_ne (by omega)]
    · have:t≠d:=fun e=>ht (e ▸ hd d rfl)
      simp only [Act.put]
      rw [Array.getElem?_setIfInBounds_ne (by omega)]
theorem Keeps.only {W:List Nat} {st:St} {a:Act} {d:Nat} (hd:d∈W) (x:V):Keeps W st a (st.put (some d) x) a:=by
  refine ⟨by simp [St.put],fun t ht=>?_,fun _ _=>rfl⟩
  have:t≠d:=fun e=>ht (e ▸ hd)
  simp only [St.put]
  rw [List.getElem?_set_ne (by omega)]
theorem Rel.refine (hR:Rel E w0 μ st a w) {d:Nat} {x:V} (h:RepV E w μ st.bl x (a.tmps.getD d undef)):Rel E w0 μ (st.put (some d) x) a w:=by
  refine ⟨hR.mem,?_,hR.defers,hR.tree⟩
  show All2 _ (st.tmps.set d x) a.tmps.toList
  refine All2.of_get (by simpa using hR.slots.length) fun i y v hy hv=>?_
  rw [List.getElem?_set] at hy
  split at hy
  · next e =>
    subst e
    split at hy
    · cases hy
      have:a.tmps.getD d undef=v:=by
        rw [Array.getElem?_toList] at hv
        rw [Array.getD_eq_getD_getElem?,hv];rfl
      rw [← this];exact h
    · cases hy
  · obtain ⟨v',h1,h2⟩:=hR.slots.get hy
    rw [hv] at h1;cases h1;exact h2
theorem goes_put (d:Option Tmp) (x:V):Goes w μ st w μ (st.put d x):=by
  cases d <;> exact ⟨Evo.refl _ _ _,rfl,fun _ _ _=>rfl⟩
theorem St.put_bl (st:St) (d:Option Tmp) (x:V):(st.put d x).bl=st.bl:=by cases d <;> rfl
def OpsK (E:Env) (w0:World) (μ:Lie) (st:St) (a:Act) (w:World) (W:List Nat) (K:St→Option ρ) (r:ρ) (Q:Exit→Act→World→Prop):Prop :=
  ∀ st' μ' a' w',K st'=some r→Rel E w0 μ' st' a' w'→Keeps W st a st' a'→Goes w μ st w' μ' st'→Q .normal a' w'
theorem evOps_sound (hcx:cx.good P E.G) {inl:Inl ρ} (hinl:InlOk P E inl) {path:List Nat} {ops:Array Oper} {W:List Nat} (hW:∀ (i:Nat) (o:Oper) (d:Nat),ops.toList[i]? = some o→o.dst=some d→d∈W) {Q:Exit→Act→World→Prop} {r:ρ} {K:St→Option ρ} :
    ∀ (rest:List Oper) (i:Nat) (st:St) (μ:Lie) (a:Act) (w:World),ops.toList.drop i=rest→Rel E w0 μ st a w→evOps cx inl path ops.toList rest st K=some r→OpsK E w0 μ st a w W K r Q→wpOps P ops Q (List.range' i rest.length) a w
  | [],i,st,μ,a,w,_,hR,h,hQ=>hQ st μ a w h hR (Keeps.refl _ _ _) (Goes.refl _ _ _)
  | o :: rest,i,st,μ,a,w,hd,hR,h,hQ=>by
    have hi:ops.toList[i]? = some o:=by
      have:=congrArg (fun l=>l[0]?) hd
      simpa using this
    have hi':ops[i]? = some o:=by rw [← Array.getElem?_toList];exact hi
    have hd':ops.toList.drop (i+1)=rest:=by
      have:=congrArg List.tail hd
      simpa using this
    have hdst:∀ t,o.dst=some t→t∈W:=fun t e=>hW i o t hi e
    have run:∀ (st1:St),Rel E w0 μ st1 a w→Keeps W st a st1 a→Goes w μ st w μ st1→(evOp cx inl path o st1 fun v st=>evOps cx inl path ops.toList rest (st.put o.dst v) K)=some r →
        o.wp P a w (wpOps P ops Q (List.range' (i+1) rest.length)) Q:=by
      intro st1 r1 k1 g1 h1
      refine evOp_sound hcx hinl r1 h1 _ Q fun X st' μ' v w' hk hx r' ht g'=>?_
      have kp:Keeps W st a (st'.put o.dst X) (a.put o.dst v):=by
        refine (k1.trans ⟨by rw [ht],fun t _=>by rw [ht],fun _ _=>rfl⟩).trans (Keeps.put hdst X v)
      exact evOps_sound hcx hinl hW rest (i+1) _ μ' _ w' hd' (r'.put o.dst hx) hk fun st2 μ2 a2 w2 q1 q2 q3 q4=>hQ st2 μ2 a2 w2 q1 q2 (kp.trans q3) ((g1.trans g').trans ((goes_put o.dst X).trans q4))
    have skip:∀ (st1:St),Rel E w0 μ st1 a w→Keeps W st a st1 a→Goes w μ st w μ st1→evOps cx inl path ops.toList rest (st1.put o.dst V.skipped) K=some r→wpOps P ops Q (List.range' (i+1) rest.length) (a.put o.dst undef) w:=by
      intro st1 r1 k1 g1 h1
      have kp:Keeps W st a (st1.put o.dst V.skipped) (a.put o.dst undef):=k1.trans (Keeps.put hdst V.skipped undef)
      exact evOps_sound hcx hinl hW rest (i+1) _ μ _ w hd' (r1.put o.dst RepV.skipped) h1 fun st2 μ2 a2 w2 q1 q2 q3 q4=>hQ st2 μ2 a2 w2 q1 q2 (kp.trans q3) (g1.trans ((goes_put o.dst V.skipped).trans q4))
    rw [List.length_cons,List.range'_succ]
    unfold wpOps
    simp only [hi']
    unfold evOps at h
    rw [forceSt_eq] at h
    split at h
    · next hg =>
      have hw:Region.wanted o (yielded ops a.tmps)=true:=by unfold Region.wanted;rw [hg]
      rw [if_pos hw]
      exact Or.inl (run st hR (Keeps.refl _ _ _) (Goes.refl _ _ _) h)
    · next j want hg =>
      split at h
      case h_2=>cases h
      next oj hj =>
      split at h
      case h_2=>cases h
      next d hdj =>
      split at h
      case h_3=>cases h
      case h_2 hb =>
        have hval:=hR.tmp d
        rw [hb] at hval
        have hval:a.tmps.getD d undef=undef:=hval.skipped_eq
        have hy:yielded ops a.tmps j=none:=by
          unfold yielded
          rw [← Array.getElem?_toList,hj]
          simp only [Option.bind_some,hdj]
          rw [Array.getD_eq_getD_getElem?] at hval
          cases hq:a.tmps[d]? with
          | none=>rfl
          | some u =>
            rw [hq] at hval
            have hval:u=undef:=hval
            subst hval
            rfl
        have hw:Region.wanted o (yielded ops a.tmps)=false:=by unfold Region.wanted;rw [hg];simp [hy]
        rw [hw]
        exact skip st hR (Keeps.refl _ _ _) (Goes.refl _ _ _) h
      next b hb =>
      have hdW:d∈W:=hW j oj d hj hdj
      have hval:=hR.tmp d
      rw [hb] at hval
      have hval:a.tmps.getD d undef = .bool b:=hval
      have hlt:a.tmps[d]? = some (.bool b):=by
        rw [Array.getD_eq_getD_getElem?] at hval
        cases hq:a.tmps[d]? with
        | none =>
          rw [hq] at hval
          exact absurd hval (by simp [undef])
        | some u=>rw [hq] at hval;exact congrArg some hval
      have hy:yielded ops a.tmps j=some b:=by
        unfold yielded
        rw [← Array.getElem?_toList,hj]
        simp only [Option.bind_some,hdj,hlt]
      have hw:Region.wanted o (yielded ops a.tmps)=(b == want):=by unfold Region.wanted;rw [hg];simp [hy]
      rw [hw]
      have rb:∀ c,c=b→Rel E w0 μ (st.put (some d) (.at (.bool c))) a w:=fun c e=>hR.refine (by rw [hval,e];rfl)
      cases b <;> cases want <;> simp only [cond_true,cond_false] at h
      · exact Or.inl (run _ (rb _ rfl) (Keeps.only hdW _) (goes_put _ _) h)
      · exact skip _ (rb _ rfl) (Keeps.only hdW _) (goes_put _ _) h
      · exact skip _ (rb _ rfl) (Keeps.only hdW _) (goes_put _ _) h
      · exact Or.inl (run _ (rb _ rfl) (Keeps.only hdW _) (goes_put _ _) h)
end
end Go.Proofs.YtnohkcklakipoaaGreatDoor.Ev
set_option linter.unusedVariables false
set_option linter.unusedSimpArgs false
set_option maxRecDepth 100000
namespace Go.Proofs.YtnohkcklakipoaaGreatDoor.Ev
open Go Go.RowKit Go.Proofs
variable {ρ:Type}
section
variable {P:Program} {tS elem:TypeId} {e:Ty} {w:World}
def zerosOf (e:Ty) (n:Nat):List Value:=(Builtin.zeroCells (zeroV e).cells n).toList
theorem zerosOf_len (hte:TyOf P elem e) (n:Nat):(zerosOf e n).length=n*e.size:=by
  have hzs:(zeroV e).cells.size=e.size:=by rw [zeroV_cells hte];simp [zeroVals_length]
  unfold zerosOf
  rw [Array.length_toList,size_zeroCells,hzs]
theorem zerosOf_one (w:World) (hte:TyOf P elem e) (n:Nat):∀ u∈zerosOf e n,u.oneCell'=true:=by
  intro u hu
  have h0:∀ u∈zeroVals e,u.oneCell'=true:=(Holds.zero (w:=w) (S:=fun _=>True) e).one
  have:u∈(zeroV e).cells.toList:=by
    unfold zerosOf Builtin.zeroCells at hu
    simp at hu
    obtain ⟨q,hq,e0⟩:=hu
    have hpos:0<(zeroV e).cells.size:=by
      rcases Nat.eq_zero_or_pos (zeroV e).cells.size with h | h
      · rw [h] at hq;simp at hq
      · exact h
    have hlt:=Nat.mod_lt q hpos
    rw [getElem!_pos (zeroV e).cells (q % (zeroV e).cells.size) hlt] at e0
    rw [← e0]
    simp
  rw [zeroV_cells hte] at this
  exact h0 u (by simpa using this)
theorem run_clear_in (hu:P.underlying tS=some (.slice elem)) (hte:TyOf P elem e) {ty:TypeId} {k o n cap:Nat} {vals:Array Value} {vty:TypeId} {fz:Nat × Nat} (hk:w.heap[k]? = some (.cells vals vty fz)) (hfz:unfrozen vals fz) (hn:0<n) (hfit:o+n*e.size≤vals.size) :
    (Builtin.clear_ #[tS] ty #[.slice (some ⟨k,o,none⟩) n cap]).run P w = .ok (.tuple #[]) (rowSet w k (writeAt vals.toList o (zerosOf e n)) vty fz):=by
  have hst:=run_storeCells (P:=P) (off:=o) (zerosOf e n) 0 w vals hk hfz (zerosOf_one w hte n) (by rw [zerosOf_len hte];omega)
  rw [Nat.add_zero] at hst
  obtain ⟨m,rfl⟩:∃ m,n=m+1:=⟨n-1,by omega⟩
  unfold zerosOf at hst ⊢
  simp [Builtin.clear_,run_underlying hu,run_zeroValue hte,hst]
theorem run_rest (hu:P.underlying tS=some (.slice elem)) (hte:TyOf P elem e) {o:Oper} {a:Act} {t lo:Tmp} (ho:o.op = .slice tS (.tmp t) (some (.tmp lo)) none none) {k n cap x:Nat} (hv:a.eval (.tmp t) = .slice (some ⟨k,0,none⟩) n cap)
    (hlo:a.eval (.tmp lo) = .int .i64 x) (hxy:x<n) (hn:n≤cap):(execOp a.eval o).run P w = .ok (.value (.slice (some ⟨k,x*e.size,none⟩) (n-x) (cap-x))) w:=by
  have hb:(Instr.sliceBounds true n cap (some (a.eval (.tmp lo))) none none).run P w = .ok (x,n,cap) w:=by
    have:x≤n:=Nat.le_of_lt hxy
    simp [Instr.sliceBounds,Instr.sliceBound,asIntOf,hlo,this,hn]
  unfold execOp
  simp only [ho]
  refine runsTo_of ?_
  simp only [hv]
  have hne:¬ cap=x:=by omega
  simp [Instr.sliceAt,run_underlying hu,Instr.slice,hb,run_sizeOf hte,hne,add_none]
end
section
variable {P:Program} {cx:Cx} {E:Env} {w0 w:World} {μ:Lie} {st:St} {a:Act}
def OpsKt (P:Program) (ops:Array Oper) (tl:List Nat) (E:Env) (w0:World) (μ:Lie) (st:St) (a:Act) (w:World) (W:List Nat) (K:St→Option ρ) (r:ρ) (Q:Exit→Act→World→Prop):Prop :=
  ∀ st' μ' a' w',K st'=some r→Rel E w0 μ' st' a' w'→Keeps W st a st' a'→Goes w μ st w' μ' st'→wpOps P ops Q tl a' w'
theorem evOps_part (hcx:cx.good P E.G) {inl:Inl ρ} (hinl:InlOk P E inl) {path:List Nat} {ops:Array Oper} {all:List Oper} {W:List Nat} {Q:Exit→Act→World→Prop} {r:ρ} {K:St→Option ρ} {tl:List Nat} :
    ∀ (rest:List Oper) (i:Nat) (st:St) (μ:Lie) (a:Act) (w:World),(∀ (j:Nat) (o:Oper),rest[j]? = some o→ops.toList[i+j]? = some o)→(∀ o∈rest,o.guard=none∧∀ d,o.dst=some d→d∈W)→Rel E w0 μ st a w→evOps cx inl path all rest st K=some r →
      OpsKt P ops tl E w0 μ st a w W K r Q→wpOps P ops Q (List.range' i rest.length++tl) a w
  | [],i,st,μ,a,w,_,_,hR,h,hQ=>hQ st μ a w h hR (Keeps.refl _ _ _) (Goes.refl _ _ _)
  | o :: rest,i,st,μ,a,w,hd,hW,hR,h,hQ=>by
    have hi:ops.toList[i]? = some o:=hd 0 o rfl
    have hi':ops[i]? = some o:=by rw [← Array.getElem?_toList];exact hi
    obtain ⟨hg,hdst⟩:=hW o (List.mem_cons_self ..)
    rw [List.length_cons,List.range'_succ,List.cons_append]
    unfold wpOps
    simp only [hi']
    unfold evOps at h
    rw [forceSt_eq,hg] at h
    have hw:Region.wanted o (yielded ops a.tmps)=true:=by unfold Region.wanted;rw [hg]
    rw [if_pos hw]
    refine Or.inl (evOp_sound hcx hinl hR h _ Q fun X st' μ' v w' hk hx r' ht g'=>?_)
    have kp:Keeps W st a (st'.put o.dst X) (a.put o.dst v):=by
      refine (Keeps.trans (⟨by rw [ht],fun t _=>by rw [ht],fun _ _=>rfl⟩:Keeps W st a st' a)) (Keeps.put hdst X v)
    exact evOps_part hcx hinl rest (i+1) _ μ' _ w' (fun j o' hj=>by have:=hd (j+1) o' hj;rwa [show i+(j+1)=i+1+j by omega] at this) (fun o' ho'=>hW o' (List.mem_cons_of_mem _ ho')) (r'.put o.dst hx) hk
      fun st2 μ2 a2 w2 q1 q2 q3 q4=>hQ st2 μ2 a2 w2 q1 q2 (kp.trans q3) (g'.trans ((goes_put o.dst X).trans q4))
theorem clearAt_some:∀ {ops pre:List Oper} {q:TypeId × Tmp × Tmp × Tmp},clearAt ops=some (pre,q)→∃ o p,ops=pre++[o,p]∧clearPair o p=some q∧∀ x∈pre,x.guard=none
  | [],_,_,h=>by cases h
  | o :: r,pre,q,h=>by
    unfold clearAt at h
    split at h
    · next p =>
      split at h
      · next q' hq=>cases h;exact ⟨o,p,rfl,hq,fun x hx=>by cases hx⟩
      · cases h
    · split at h
      · next q' hq =>
        have hg:=(cond_none h).1
        replace h:=(cond_none h).2
        cases h
        obtain ⟨o',p,h1,h2,h3⟩:=clearAt_some (ops:=r) (pre:=q'.1) (q:=q'.2) hq
        exact ⟨o',p,by rw [h1];rfl,h2,fun x hx=>by rcases List.mem_cons.mp hx with rfl | hx;exact Option.isNone_iff_eq_none.mp hg;exact h3 x hx⟩
      · cases h
theorem clearPair_some {o p:Oper} {q:TypeId × Tmp × Tmp × Tmp} (h:clearPair o p=some q) :
    o.op = .slice q.1 (.tmp q.2.1) (some (.tmp q.2.2.1)) none none∧o.dst=some q.2.2.2∧o.guard=none∧p.op = .call ⟨.builtin .clear,#[.tmp q.2.2.2],#[q.1]⟩∧p.guard=none∧p.dst=none:=by
  unfold clearPair at h
  split at h
  case h_2=>cases h
  next c hc =>
  split at h
  case h_2=>cases h
  next hcal =>
  split at h
  case h_2=>cases h
  next tS x lo d d' tS' h1 h2 h3 h4 =>
  have hb:=(cond_none h).1
  replace h:=(cond_none h).2
  cases h
  simp only [Bool.and_eq_true] at hb
  obtain ⟨⟨⟨⟨b1,b2⟩,b3⟩,b4⟩,b5⟩:=hb
  have b1:=Nat.eq_of_beq_eq_true b1
  have b2:=Nat.eq_of_beq_eq_true b2
  subst b1;subst b2
  refine ⟨h1,h2,Option.isNone_iff_eq_none.mp b3,?_,Option.isNone_iff_eq_none.mp b4,Option.isNone_iff_eq_none.mp b5⟩
  rw [hc]
  obtain ⟨cal,as,ts⟩:=c
  simp only at hcal h3 h4
  rw [hcal,← Array.toArray_toList (xs:=as),← Array.toArray_toList (xs:=ts),h3,h4]
theorem zerosOf_part {elem:TypeId} {e:Ty} (hte:TyOf P elem e) {n j:Nat} (hj:j<n):((zerosOf e n).drop (j*e.size)).take e.size=zeroVals e:=by
  have hzs:(zeroV e).cells.size=e.size:=by rw [zeroV_cells hte];simp [zeroVals_length]
  have hpos:=e.size_pos
  refine List.ext_getElem? fun i=>?_
  have hn:=zerosOf_len hte n
  rcases Nat.lt_or_ge i e.size with hi | hi
  · rw [List.getElem?_take_of_lt hi,List.getElem?_drop]
    have hlt:j*e.size+i<n*e.size:=by
      have:=Nat.mul_le_mul_right e.size (Nat.succ_le_of_lt hj)
      rw [Nat.succ_mul] at this
      omega
    have hm:(j*e.size+i) % e.size=i:=by rw [Nat.add_comm,Nat.add_mul_mod_self_right,Nat.mod_eq_of_lt hi]
    unfold zerosOf Builtin.zeroCells
    rw [zeroV_cells hte]
    simp only [List.size_toArray,zeroVals_length]
    simp [hlt,hm,hi,zeroVals_length]
  · rw [List.getElem?_eq_none (by rw [List.length_take];omega),List.getElem?_eq_none (by rw [zeroVals_length];exact hi)]
theorem evClear_sound (hcx:cx.good P E.G) {ops:Array Oper} {pre:List Oper} {q:TypeId × Tmp × Tmp × Tmp} (hq:clearAt ops.toList=some (pre,q)) {W:List Nat} (hW:q.2.2.2∈W) {K:St→Option ρ} {r:ρ} {Q:Exit→Act→World→Prop} (hR:Rel E w0 μ st a w) (h:evClear cx q st K=some r)
    (hQ:OpsK E w0 μ st a w W K r Q):wpOps P ops Q [pre.length,pre.length+1] a w:=by
  obtain ⟨o,p,hops,hpair,_⟩:=clearAt_some hq
  obtain ⟨ho,hod,hog,hp,hpg,hpd⟩:=clearPair_some hpair
  obtain ⟨tS,x,lo,d⟩:=q
  have ho:o.op = .slice tS (.tmp x) (some (.tmp lo)) none none:=ho
  have hod:o.dst=some d:=hod
  have hp:p.op = .call ⟨.builtin .clear,#[.tmp d],#[tS]⟩:=hp
  have h1:ops[pre.length]? = some o:=by rw [← Array.getElem?_toList,hops];simp
  have h2:ops[pre.length+1]? = some p:=by rw [← Array.getElem?_toList,hops];simp
  unfold evClear at h
  split at h
  case h_2=>cases h
  next b g i e hx hlo he =>
  have hx:st.tmps.getD x V.undef = .at (.os b g):=hx
  have hlo:st.tmps.getD lo V.undef = .at (.int .i64 i):=hlo
  have he:elemTy cx tS=some e:=he
  split at h
  case h_2=>cases h
  next g' nf t l hb =>
  have hc:=(cond_none h).1
  replace h:=(cond_none h).2
  have hi:=of_decide_eq_true (cond_none h).1
  replace h:=(cond_none h).2
  simp only [Bool.and_eq_true,Bool.not_eq_true',beq_iff_eq] at hc
  obtain ⟨⟨⟨⟨rfl,hlock⟩,hflat⟩,heq⟩,hdl⟩:=hc
  obtain ⟨het⟩:∃ _:t=e,True:=by
    cases hh:Ty.eq? t e with
    | none=>rw [hh] at heq;cases heq
    | some u=>exact ⟨u.down,trivial⟩
  subst het
  obtain ⟨elem,hu,hte⟩:=elemTy_sound hcx.ok he
  have hm1:mine st.bl b:=by unfold mine;rw [hb]
  have hrv:=hR.tmp x
  rw [hx] at hrv
  have hrow:=(hrv.2 _ _ _ _ _ hb).2 rfl
  have hlov:=hR.tmp lo
  rw [hlo] at hlov
  have hlov:a.tmps.getD lo undef = .int .i64 i:=hlov
  rcases hR.mem.blocks b _ hb with ⟨q1,q2⟩ | ⟨k,cap,vals,ty,fz,q1,q2,q3,q4,q5,q6,q7⟩
  · subst q2;simp at hi;omega
  rw [q1] at hrow
  have hrow:a.tmps.getD x undef = .slice (some ⟨k,0,none⟩) l.length cap:=hrow
  obtain ⟨n,rfl⟩:∃ n:Nat,i=n:=⟨i.toNat,by omega⟩
  have hn:n<l.length:=by omega
  have hpos:=t.size_pos
  have hrun:=run_rest (w:=w) hu hte ho (a:=a) (k:=k) (n:=l.length) (cap:=cap) (x:=n) hrow hlov hn q5
  have hw1:Region.wanted o (yielded ops a.tmps)=true:=by unfold Region.wanted;rw [hog]
  unfold wpOps
  simp only [h1]
  rw [if_pos hw1]
  refine Or.inl ?_
  unfold Oper.wp
  rw [hrun]
  show wpOps P ops Q [pre.length+1] (a.put o.dst _) w
  rw [hod]
  unfold wpOps
  simp only [h2]
  have hw2:Region.wanted p (yielded ops (a.put (some d) (.slice (some ⟨k,n*t.size,none⟩) (l.length-n) (cap-n))).tmps)=true:=by unfold Region.wanted;rw [hpg]
  rw [if_pos hw2]
  refine Or.inl ?_
  obtain ⟨b1,hb1⟩:∃ b1,b1=a.put (some d) (.slice (some ⟨k,n*t.size,none⟩) (l.length-n) (cap-n)):=⟨_,rfl⟩
  rw [← hb1]
  have hds:d<a.tmps.size:=by
    have:=hR.slots.length
    simp only [Array.length_toList] at this
    rw [← this];exact Nat.le_of_ble_eq_true hdl
  have hput:b1.eval (.tmp d) = .slice (some ⟨k,n*t.size,none⟩) (l.length-n) (cap-n):=by
    rw [hb1]
    show (a.tmps.setIfInBounds d _).getD d undef=_
    simp [hds]
  have hfit:n*t.size+(l.length-n)*t.size≤vals.size:=by
    rw [q6,← Nat.add_mul];exact Nat.mul_le_mul_right _ (by omega)
  have hclear:=run_clear_in (ty:=p.type) (cap:=cap-n) hu hte q3 q4 (n:=l.length-n) (by omega) hfit
  have hrun2:(execOp b1.eval p).run P w = .ok (.value (.tuple #[])) (rowSet w k (writeAt vals.toList (n*t.size) (zerosOf t (l.length-n))) ty fz):=by
    unfold execOp
    simp only [hp]
    simp [resolve,invoke,builtin,hput,hclear]
  unfold Oper.wp
  rw [hrun2]
  show wpOps P ops Q [] (b1.put p.dst _) _
  rw [hpd]
  obtain ⟨VV,hV⟩:∃ VV,VV=writeAt vals.toList (n*t.size) (zerosOf t (l.length-n)):=⟨_,rfl⟩
  rw [← hV]
  obtain ⟨w',hw'⟩:∃ w',w'=rowSet w k VV ty fz:=⟨_,rfl⟩
  rw [← hw']
  have hkl:=heap_lt q3
  have hzl:=zerosOf_len hte (l.length-n)
  have hvl:vals.toList.length=cap*t.size:=by rw [Array.length_toList,q6]
  have hVl:VV.length=vals.size:=by rw [hV,writeAt_length,Array.length_toList]
  have hw:∀ j,j<w.heap.size→(∀ c,μ b≠some (j,c))→w'.heap[j]? = w.heap[j]?:=fun j hj hne=>by
    rw [hw'];exact rowSet_other fun e=>hne cap (by rw [e];exact q1)
  have hk':w'.heap[k]? = some (.cells VV.toArray ty fz):=by rw [hw'];exact rowSet_same hkl
  have hlen:(l.take n++List.replicate (l.length-n) t.zero).length=l.length:=by simp;omega
  have hel:∀ (w2:World) (S:Nat→Prop) p,(hp:p<(l.take n++List.replicate (l.length-n) t.zero).length)→Holds w2 S t (l.take n++List.replicate (l.length-n) t.zero)[p] ((VV.drop (p*t.size)).take t.size):=by
    intro w2 S p hp
    rw [hlen] at hp
    by_cases hpn:p<n
    · have e1:(l.take n++List.replicate (l.length-n) t.zero)[p]=l[p]:=by
        rw [List.getElem_append_left (by simp;omega)];simp
      rw [e1]
      have e2:(VV.drop (p*t.size)).take t.size=(vals.toList.drop (p*t.size)).take t.size:=by
        refine List.ext_getElem? fun i=>?_
        rcases Nat.lt_or_ge i t.size with hi | hi
        · have:p*t.size+i<n*t.size:=by
            have:=Nat.mul_le_mul_right t.size (Nat.succ_le_of_lt hpn)
            rw [Nat.succ_mul] at this
            omega
          rw [List.getElem?_take_of_lt hi,List.getElem?_take_of_lt hi,List.getElem?_drop,List.getElem?_drop,hV,writeAt_get_out _ _ _ _ (Or.inl this)]
        · rw [List.getElem?_eq_none (by rw [List.length_take];omega),List.getElem?_eq_none (by rw [List.length_take];omega)]
      rw [e2]
      exact ((q7 p hp).flat (S':=fun _=>False) hflat).mono fun _ hk _=>hk.elim
    · have e1:(l.take n++List.replicate (l.length-n) t.zero)[p]=t.zero:=by
        rw [List.getElem_append_right (by simp;omega)];simp
      rw [e1]
      have e2:(VV.drop (p*t.size)).take t.size=zeroVals t:=by
        rw [← zerosOf_part hte (n:=l.length-n) (j:=p-n) (by omega)]
        refine List.ext_getElem? fun i=>?_
        rcases Nat.lt_or_ge i t.size with hi | hi
        · have hs:p*t.size=n*t.size+(p-n)*t.size:=by rw [← Nat.add_mul];congr 1;omega
          have hlt:(p-n)*t.size+i<(zerosOf t (l.length-n)).length:=by
            rw [hzl]
            have:=Nat.mul_le_mul_right t.size (Nat.succ_le_of_lt (show p-n<l.length-n by omega))
            rw [Nat.succ_mul] at this
            omega
          rw [List.getElem?_take_of_lt hi,List.getElem?_take_of_lt hi,List.getElem?_drop,List.getElem?_drop,hV,hs,Nat.add_assoc,writeAt_get_in _ _ _ _ (by rw [hvl,hzl,← Nat.add_mul];exact Nat.mul_le_mul_right _ (by omega)) hlt]
        · rw [List.getElem?_eq_none (by rw [List.length_take];omega),List.getElem?_eq_none (by rw [List.length_take];omega)]
      rw [e2]
      exact Holds.zero t
  have hme:=hR.mem.turn (w':=w') (blk':=.arr g true nf t (l.take n++List.replicate (l.length-n) t.zero)) hb hm1 (μ b) (by rw [hw'];rfl) (by rw [hw'];rfl) (by rw [hw'];rfl) (by rw [hw',rowSet_size];exact Nat.le_refl _) hw (Or.inl rfl) (fun cs q=>by cases q)
    (fun g2 own nf2 u l2 q=>by cases q;exact ⟨g,true,nf,l,rfl,Nat.le_refl _,fun _=>⟨hlen.symm,rfl⟩⟩) (fun ev =>
      Or.inr ⟨k,cap,VV.toArray,ty,fz,by rw [Lie.put_same];exact q1,q2,hk',fun i hi=>q4 i (by simpa [hVl] using hi),by rw [hlen];exact q5,by simp [hVl,q6],fun p hp=>hel _ _ p hp⟩)
  have htr:Trees E w' (μ.put b (μ b)) (st.bl.set b (.arr g true nf t (l.take n++List.replicate (l.length-n) t.zero))):=by
    refine hR.tree.turn hR.mem hm1 hw hme.2 fun g2 t2 l2 q=>?_
    cases q
    exact NestT.none q1 hk' fun p hp=>(hel w' (fun _=>True) p hp).tree hflat
  have hR2:=hR.next hme.1 hme.2 htr
  simp only [Int.toNat_natCast] at h
  have hQ:=hQ _ (μ.put b (μ b)) (b1.put none (.tuple #[])) w' h
  refine hQ ?_ ?_ ?_
  · rw [hb1];exact hR2.put (some d) RepV.undef
  · rw [hb1]
    exact (⟨rfl,fun t _=>rfl,fun _ _=>rfl⟩:Keeps W st a { st with bl:=st.bl.set b (.arr g true nf t (l.take n++List.replicate (l.length-n) t.zero)) } a).trans (Keeps.put (d:=some d) (fun t e=>by cases e;exact hW) V.undef _)
  · exact (goes_set hlock hme.2).trans (goes_put (some d) V.undef)
end
end Go.Proofs.YtnohkcklakipoaaGreatDoor.Ev
