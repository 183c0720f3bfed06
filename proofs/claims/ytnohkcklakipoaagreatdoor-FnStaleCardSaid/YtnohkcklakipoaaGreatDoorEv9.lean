/- An element of a row of trees, written anew as another tree. -/
import Derived.Test.YtnohkcklakipoaaGreatDoorEv7
import Derived.Test.YtnohkcklakipoaaGreatDoorEv4
import Derived.Test.YtnohkcklakipoaaGreatDoorEv3
import Derived.Test.YtnohkcklakipoaaGreatDoorEv5
import Derived.Test.YtnohkcklakipoaaGreatDoorEv6
namespace Go.Proofs.YtnohkcklakipoaaGreatDoor.Ev
open Go Go.RowKit
set_option linter.unusedVariables false
set_option linter.unusedSimpArgs false
section
variable {E:Env} {w0 w:World} {μ:Lie} {bl:List Blk} {τ:Nat→List Nat}
theorem elem_change (hm:Mem E w0 w μ bl) (ht:TreeOk E w μ bl τ) {b g:Nat} {t:Ty} {l:List t.den} (hb:bl[b]? = some (.arr g true true t l)) {i:Nat} (hi:i<l.length) {k cap:Nat} (hμ:μ b=some (k,cap)) :
    ∃ cells ty fz F,w.heap[k]? = some (.cells cells ty fz)∧unfrozen cells fz∧cells.size=cap*t.size∧l.length≤cap∧HoldsT w t l[i] ((cells.toList.drop (i*t.size)).take t.size) F∧F.Nodup∧k ∉ F∧(∀ j∈F,E.N j∧j<w.heap.size) ∧
      ∀ (w':World) (vs:List Value) (y:t.den) (F':List Nat),Marked (k :: F) w w'→w'.heap[k]? = some (.cells (writeAt cells.toList (i*t.size) vs).toArray ty fz)→HoldsT w' t y vs F'→F'.Nodup→(∀ j∈F',(j∈F∨w.heap.size≤j)∧j<w'.heap.size) →
        ∃ τ',Change E w μ bl τ w' (bl.set b (.arr g true true t (l.set i y))) [b] (k :: F) τ':=by
  have hTb:Tree bl b:=⟨g,t,l,hb⟩
  rcases ht.nest b g t l hb with ⟨rfl,_⟩ | ⟨k',cap',cells,ty,fz,Fs,h1,h2,h3,h4,h5⟩
  · exact absurd hi (Nat.not_lt_zero _)
  rw [hμ] at h1;cases h1
  have hnd:Fs.flatten.Nodup:=by rw [← h3];exact ht.nodup b hTb
  have hτ:∀ j∈Fs.flatten,E.N j∧j<w.heap.size∧¬ Own μ bl j:=fun j hj=>ht.new b hTb j (by rw [h3];exact hj)
  have hkOwn:Own μ bl k:=⟨b,cap,hμ,tree_mine hTb⟩
  have hkF:k ∉ Fs.flatten:=fun hk=>(hτ k hk).2.2 hkOwn
  obtain ⟨hkN,hun,hcap,hsz⟩:E.N k∧unfrozen cells fz∧l.length≤cap∧cells.size=cap*t.size:=by
    rcases hm.blocks b _ hb with ⟨q1,_⟩ | ⟨k3,cap3,vals,ty3,fz3,q1,q2,q3,q4,q5,q6,q7⟩
    · rw [hμ] at q1;cases q1
    · rw [hμ] at q1;cases q1
      rw [h2] at q3;cases q3
      exact ⟨q2,q4,q5,q6⟩
  have hFlen:i<Fs.length:=by rw [h4];exact hi
  refine ⟨cells,ty,fz,Fs.getD i [],h2,hun,hsz,hcap,h5 i hi,nodup_getD hnd i,fun hk=>hkF (mem_flatten_getD hk),fun j hj=>⟨(hτ j (mem_flatten_getD hj)).1,(hτ j (mem_flatten_getD hj)).2.1⟩,fun w' vs y F' hmk hk' hT' hnd' hF'=>?_⟩
  have hvs:vs.length=t.size:=hT'.holds.length
  have hmem:∀ n∈(Fs.set i F').flatten,n∈Fs.flatten∨(w.heap.size≤n∧n<w'.heap.size):=by
    intro n hn
    rw [flatten_set _ _ _ hFlen] at hn
    rcases List.mem_append.mp hn with hn | hn
    · exact Or.inl (by rw [flatten_at _ i hFlen];exact List.mem_append_left _ hn)
    · rcases List.mem_append.mp hn with hn | hn
      · obtain ⟨q1,q2⟩:=hF' n hn
        rcases q1 with q1 | q1
        · exact Or.inl (mem_flatten_getD q1)
        · exact Or.inr ⟨q1,q2⟩
      · exact Or.inl (by rw [flatten_at _ i hFlen];exact List.mem_append_right _ (List.mem_append_right _ hn))
  have hroom:∀ j,j<l.length→j*t.size+t.size≤cells.toList.length:=by
    intro j hj
    rw [Array.length_toList,hsz,← Nat.succ_mul]
    exact Nat.mul_le_mul_right _ (by omega)
  refine ⟨fun _=>(Fs.set i F').flatten,hmk,fun n hn=>⟨b,List.mem_singleton_self _,hTb,?_⟩,by simp,fun c hc=>?_,fun c hc=>?_,fun c hc n hn=>?_,fun c hc=>?_,fun c hc c' hc' hne=>?_,fun c hc d hd hTd n hn hnd2=>?_⟩
  · unfold Fof;rw [hμ]
    rcases List.mem_cons.mp hn with rfl | hn
    · exact List.mem_cons_self
    · exact List.mem_cons_of_mem _ (by rw [h3];exact mem_flatten_getD hn)
  · exact getElem?_set_ne' (by simpa using hc)
  · obtain rfl:c=b:=by simpa using hc
    refine ⟨g,t,l,l.set i y,hb,getElem?_set_self hb,by simp,?_,fun k2 cap2 hk2=>?_⟩
    · refine Or.inr ⟨k,cap,_,ty,fz,_,hμ,hk',rfl,by simp [h4],fun j hj=>?_⟩
      have hj':j<l.length:=by simpa using hj
      rw [List.toList_toArray]
      by_cases ej:j=i
      · subst ej
        rw [getD_set_eq hFlen]
        have:=part_writeAt (vals:=cells.toList) (news:=vs) (p:=j*t.size) (n:=t.size) (off:=0) (by omega) (hroom j hj')
        rw [Nat.add_zero] at this
        rw [this,writeAt_eq (by rw [List.length_take,List.length_drop];have:=hroom j hj';omega)]
        have e1:List.drop (0+vs.length) (List.take t.size (List.drop (j*t.size) cells.toList))=[]:=List.drop_eq_nil_of_le (by rw [List.length_take];omega)
        rw [e1,List.append_nil,List.take_zero,List.nil_append]
        simpa using hT'
      · rw [getD_set_ne ej,List.getElem_set_ne (fun q=>ej q.symm)]
        have:=part_other (vals:=cells.toList) (news:=vs) (p:=j*t.size) (q:=i*t.size) (n:=t.size) (off:=0) (by omega) (by
          rcases Nat.lt_or_ge j i with q | q
          · left;rw [← Nat.succ_mul];exact Nat.mul_le_mul_right _ q
          · right;rw [← Nat.succ_mul];exact Nat.mul_le_mul_right _ (by omega))
        rw [Nat.add_zero] at this
        rw [this]
        refine (h5 j hj').mono fun n hn=>?_
        have hnF:n∈Fs.flatten:=mem_flatten_getD hn
        refine hmk.block n (hτ n hnF).2.1 fun hnG=>?_
        rcases List.mem_cons.mp hnG with rfl | hnG
        · exact hkF hnF
        · exact ej (nodup_apart hnd j i n hn hnG)
    · rw [hμ] at hk2;cases hk2
      refine ⟨_,ty,fz,hk',fun j hj=>hun j (by simpa [writeAt_length] using hj),by simpa using hcap,?_⟩
      rw [List.size_toArray,writeAt_length,Array.length_toList];exact hsz
  · obtain rfl:c=b:=by simpa using hc
    rcases hmem n hn with q | ⟨q1,q2⟩
    · obtain ⟨n1,n2,n3⟩:=hτ n q
      exact ⟨n1,Nat.lt_of_lt_of_le n2 hmk.size,n3⟩
    · refine ⟨E.hN n (Nat.le_trans hm.big q1),q2,?_⟩
      rintro ⟨b2,c2,hb2,hm2⟩
      have:=hm.lt (mine_alive hm2) hb2
      omega
  · rw [flatten_set _ _ _ hFlen]
    refine nodup_swap (B:=Fs.getD i []) (n:=w.heap.size) (by rw [← flatten_at _ i hFlen];exact hnd) (fun n hn=>?_) hnd' fun n hn=>(hF' n hn).1
    rw [← flatten_at _ i hFlen] at hn;exact (hτ n hn).2.1
  · have h1:c=b:=by simpa using hc
    have h2:c'=b:=by simpa using hc'
    exact absurd (h1.trans h2.symm) hne
  · have hdb:d≠b:=by simpa using hd
    rcases hmem n hn with q | ⟨q1,q2⟩
    · exact ht.apart d b hTd hTb hdb n hnd2 (by rw [h3];exact q)
    · have:=(ht.new d hTd n hnd2).2.1;omega
end
section
variable {P:Program}
theorem tree_append (w:World) {t0 t1 ty e:TypeId} {i:TypeInfo} {t:Ty} (hte:TyOf P e t) (hu:P.underlying t0=some (.slice e)) (hi:P.info? e=some i) (hisz:i.size=t.size) (hby:i.bytes≤4096) (hiz:i.zero=some (zeroV t))
    {l m:List t.den} {v vy:Value} {Fo:List Nat} {news:List Value} {Gs:List (List Nat)} (hv:HoldsT w (.slice t) l [v] Fo) (hsrc:Src P t.size t1 vy m.length news w) (hG:TreesOf w t m news Gs) (hnd:(Fo++Gs.flatten).Nodup)
    (hlt:∀ j∈Fo++Gs.flatten,j<w.heap.size) (hlen:l.length+m.length<most) (hm:0<m.length) :
    ∃ v' w' F',(Builtin.append_ #[t0,t1] ty #[v,vy]).run P w = .ok v' w'∧Marked Fo w w'∧HoldsT w' (.slice t) (l++m) [v'] F'∧F'.Nodup∧∀ j∈F',(j∈Fo++Gs.flatten∨w.heap.size≤j)∧j<w'.heap.size:=by
  have hnl:news.length=m.length*t.size:=hsrc.newsLen
  have hgrow:∀ (base:Option Addr) (cap:Nat) (olds:List Value) (Fs:List (List Nat)),v = .slice base l.length cap→(Builtin.firstCells i.size l.length (.slice base l.length cap)).run P w.drew = .ok olds.toArray w.drew →
      olds.length=l.length*t.size→TreesOf w t l olds Fs→(∀ j∈Fs.flatten,j∈Fo)→(Fs.flatten++Gs.flatten).Nodup→cap<l.length+m.length →
      ∃ v' w' F',(Builtin.append_ #[t0,t1] ty #[v,vy]).run P w = .ok v' w'∧Marked Fo w w'∧HoldsT w' (.slice t) (l++m) [v'] F'∧F'.Nodup∧∀ j∈F',(j∈Fo++Gs.flatten∨w.heap.size≤j)∧j<w'.heap.size:=by
    intro base cap olds Fs hvv hf hol hFs hsub hnd2 hcl
    have hlm:(l.length+m.length)*i.bytes≤140737488355328:=by
      have:(l.length+m.length)*i.bytes≤8589934592*4096:=Nat.mul_le_mul (by unfold most at hlen;omega) hby
      omega
    have hr:=run_append_grow_src w t0 t1 ty e i (zeroV t) hu hi hiz base l.length cap olds hf vy m.length news (by rw [hisz];exact hsrc) hcl (by unfold most at hlen;omega) (growslice_fits hcl hlm)
    have hge:=grownCap_ge w (l.length+m.length) cap e
    have hol2:(olds++news).length=(l.length+m.length)*t.size:=by rw [List.length_append,hol,hnl,Nat.add_mul]
    have hzs:(zeroV t).cells.size=t.size:=by rw [zeroV_cells hte];simp [zeroVals_length]
    have hflat:(Fs++Gs).flatten=Fs.flatten++Gs.flatten:=List.flatten_append
    have hin:∀ j∈Fs.flatten++Gs.flatten,j∈Fo++Gs.flatten:=fun j hj=>by
      rcases List.mem_append.mp hj with hj | hj
      · exact List.mem_append_left _ (hsub j hj)
      · exact List.mem_append_right _ hj
    have hnest:=TreesOf.nest (TreesOf.append hol hFs hG) (k:=w.heap.size) (cap:=grownCap w (l.length+m.length) cap e) (by rw [hol2,List.length_append]) (heap_alloc_new w.drew (.cells ((olds++news).toArray++Builtin.zeroCells (zeroV t).cells (grownCap w (l.length+m.length) cap e-(l.length+m.length))) e))
      (fun j hj=>by rw [Array.toList_append,List.getElem?_append_left (by simpa using hj)]) (fun j hj=>heap_alloc_old w.drew _ (hlt j (hin j (by rw [hflat] at hj;exact hj))))
    rw [hvv]
    refine ⟨_,_,w.heap.size :: (Fs++Gs).flatten,hr,⟨rfl,rfl,rfl,by simp,fun j hj _=>heap_alloc_old w.drew _ hj⟩,?_,?_,?_⟩
    · rcases hnest with ⟨e1,_⟩ | ⟨k2,cap2,cells2,ty2,fz2,Fs2,e1,e2,e3,e4,e5⟩
      · exact absurd (congrArg List.length e1) (by rw [List.length_append,List.length_nil];omega)
      · cases e1
        have:=(heap_alloc_new w.drew (.cells ((olds++news).toArray++Builtin.zeroCells (zeroV t).cells (grownCap w (l.length+m.length) cap e-(l.length+m.length))) e)).symm.trans e2
        cases this
        simp only [HoldsT]
        refine ⟨_,rfl,Or.inr ⟨_,_,_,_,_,Fs2,by rw [List.length_append],e2,unfrozen_zero _,by rw [List.length_append];exact hge,?_,by rw [e3],e4,e5⟩⟩
        rw [Array.size_append,size_zeroCells,hzs,List.size_toArray,hol2,← Nat.add_mul]
        congr 1
        omega
    · refine List.nodup_cons.mpr ⟨fun hq=>?_,by rw [hflat];exact hnd2⟩
      rw [hflat] at hq
      have:=hlt _ (hin _ hq)
      omega
    · intro j hj
      rcases List.mem_cons.mp hj with rfl | hj
      · exact ⟨Or.inr (Nat.le_refl _),by simp⟩
      · rw [hflat] at hj
        have:=hlt _ (hin _ hj)
        exact ⟨Or.inl (hin _ hj),by simp;omega⟩
  simp only [HoldsT] at hv
  obtain ⟨v1,hv1,hv⟩:=hv
  cases hv1
  rcases hv with ⟨rfl,rfl,rfl⟩ | ⟨k,cap,vals,vty,fz,Fs,rfl,h2,h3,h4,h5,rfl,h7,h8⟩
  · exact hgrow none 0 [] [] rfl (run_firstCells_none w.drew _ _ _ _) (by simp) ⟨rfl,fun i hi=>by simp at hi⟩ (fun j hj=>by simp at hj) (by simpa using hnd) (by simpa using hm)
  · have hle:l.length*t.size≤vals.toList.length:=by
      have:=Nat.mul_le_mul_right t.size h4
      rw [← h5] at this;simpa using this
    have htl:(vals.toList.take (l.length*t.size)).length=l.length*t.size:=by rw [List.length_take];omega
    have hold:TreesOf w t l (vals.toList.take (l.length*t.size)) Fs:=by
      refine ⟨h7,fun i hi=>?_⟩
      have:(((vals.toList.take (l.length*t.size)).drop (i*t.size)).take t.size)=((vals.toList.drop (i*t.size)).take t.size):=by
        apply List.ext_getElem?
        intro j
        rcases Nat.lt_or_ge j t.size with q | q
        · have:(i+1)*t.size≤l.length*t.size:=Nat.mul_le_mul_right _ hi
          rw [Nat.add_mul] at this
          rw [drop_take_get _ _ _ _ q,drop_take_get _ _ _ _ q,List.getElem?_take_of_lt (by omega)]
        · rw [List.getElem?_eq_none (by simp;omega),List.getElem?_eq_none (by simp;omega)]
      rw [this]
      exact h8 i hi
    have hcell:∀ j u,(vals.toList.take (l.length*t.size))[j]? = some u→w.cell? ((⟨k,0,none⟩:Addr).add j)=some u:=by
      intro j u hj
      rw [add_none,Nat.zero_add,cell_row h2]
      rw [List.getElem?_take] at hj
      split at hj
      · exact hj
      · cases hj
    rw [List.cons_append,List.nodup_cons] at hnd
    by_cases hroom:l.length+m.length≤cap
    · have hfit:l.length*t.size+news.length≤vals.size:=by
        rw [hnl,h5,← Nat.add_mul]
        exact Nat.mul_le_mul_right _ hroom
      have hst:=run_storeCells (P:=P) (off:=l.length*t.size) news 0 w vals h2 h3 hsrc.one (by omega)
      rw [Nat.add_zero] at hst
      have hr:(Builtin.append_ #[t0,t1] ty #[.slice (some ⟨k,0,none⟩) l.length cap,vy]).run P w = .ok (.slice (some ⟨k,0,none⟩) (l.length+m.length) cap) (rowSet w k (writeAt vals.toList (l.length*t.size) news) vty fz):=by
        rcases hsrc.kind with ⟨e',hk⟩ | hk <;> simp [Builtin.append_,run_underlying hu,run_underlying hk,sizeOf,typeInfo,hi,hisz,hsrc.len,hroom,hsrc.cells,Addr.add_lit,hst]
      have hkl:=heap_lt h2
      have hother:∀ j∈(Fs++Gs).flatten,(rowSet w k (writeAt vals.toList (l.length*t.size) news) vty fz).heap[j]? = w.heap[j]?:=fun j hj=>rowSet_other fun q=>hnd.1 (by rw [← q];rw [List.flatten_append] at hj;exact hj)
      have hnest:=TreesOf.nest (TreesOf.append htl hold hG) (k:=k) (cap:=cap) (by rw [List.length_append,htl,hnl,List.length_append,Nat.add_mul]) (rowSet_same (vals:=writeAt vals.toList (l.length*t.size) news) (ty:=vty) (fz:=fz) hkl) (fun j hj=>by
        rw [List.length_append,htl] at hj
        simp only [List.toList_toArray]
        by_cases q:j<l.length*t.size
        · rw [writeAt_get_out _ _ _ _ (Or.inl q),List.getElem?_append_left (by omega),List.getElem?_take_of_lt q]
        · obtain ⟨d,rfl⟩:∃ d,j=l.length*t.size+d:=⟨j-l.length*t.size,by omega⟩
          rw [writeAt_get_in _ _ _ _ (by simpa using hfit) (by omega),List.getElem?_append_right (by omega),htl,Nat.add_sub_cancel_left]) hother
      refine ⟨_,_,k :: (Fs++Gs).flatten,hr,⟨rfl,rfl,rfl,by rw [rowSet_size];exact Nat.le_refl _,fun j hj hn=>rowSet_other fun q=>hn (by rw [q];exact List.mem_cons_self)⟩,?_,?_,?_⟩
      · rcases hnest with ⟨e1,_⟩ | ⟨k2,cap2,cells2,ty2,fz2,Fs2,e1,e2,e3,e4,e5⟩
        · exact absurd (congrArg List.length e1) (by rw [List.length_append,List.length_nil];omega)
        · cases e1
          have:=(rowSet_same (vals:=writeAt vals.toList (l.length*t.size) news) (ty:=vty) (fz:=fz) hkl).symm.trans e2
          cases this
          simp only [HoldsT]
          refine ⟨_,rfl,Or.inr ⟨_,_,_,_,_,Fs2,by rw [List.length_append],e2,fun j hj hh=>h3 j (by simpa [writeAt_length] using hj) hh,by rw [List.length_append];exact hroom,by simpa [writeAt_length] using h5,by rw [e3],e4,e5⟩⟩
      · rw [List.flatten_append]
        exact List.nodup_cons.mpr hnd
      · intro j hj
        rw [rowSet_size]
        have hj2:j∈k :: (Fs.flatten++Gs.flatten):=by rw [List.flatten_append] at hj;exact hj
        exact ⟨Or.inl hj2,hlt j hj2⟩
    · refine hgrow _ cap _ Fs rfl ?_ htl hold (fun j hj=>List.mem_cons_of_mem _ hj) hnd.2 (by omega)
      rw [hisz]
      exact run_firstCells_some w.drew t.size _ _ _ cap _ htl (by simpa using hcell)
end
end Go.Proofs.YtnohkcklakipoaaGreatDoor.Ev
namespace Go.Proofs.YtnohkcklakipoaaGreatDoor.Ev
open Go Go.RowKit
set_option linter.unusedVariables false
set_option linter.unusedSimpArgs false
def detOk (all:List Oper):Bool :=
  drawCore all&&all.all fun o=>o.guard.isNone&&(match o.op with | .select _ _=>false | _=>true)&&(looked o).all fun t=>match writer all t with | some j=>(edges o).contains j | none=>true
def detAct (all:List Oper) (vals:Nat→Value) (a:Act) (L:Nat→Bool):Act :=
  { a with tmps:=Array.ofFn (n:=a.tmps.size) fun t=>match writer all t.val with | some j=>bif L j then vals j else a.tmps[t] | none=>a.tmps[t] }
def detStage (sp:List Nat) (L:Nat→Bool):Nat :=
  match sp with
  | []=>0
  | i :: r=>bif L i then detStage r L+1 else 0
def RunsAs (P:Program) (o:Oper) (ρ:Operand→Value) (w:World) (v:Value) (w':World):Prop :=
  (execOp ρ o).run P w = .ok (.value v) w'∨((execOp ρ o).run P w = .ok .skip w'∧v=undef)
section
variable {P:Program} {ops:Array Oper} {vals:Nat→Value} {a:Act}
theorem detAct_get {all:List Oper} {L:Nat→Bool} (t:Nat):(detAct all vals a L).tmps[t]? = match writer all t with | some j=>bif L j then (if t<a.tmps.size then some (vals j) else none) else a.tmps[t]? | none=>a.tmps[t]?:=by
  unfold detAct
  rw [Array.getElem?_ofFn]
  by_cases h:t<a.tmps.size
  · rw [dif_pos h]
    cases hw:writer all t with
    | none=>simp [h]
    | some j=>cases hL:L j <;> simp [h,hL]
  · rw [dif_neg h]
    have hn:a.tmps[t]? = none:=Array.getElem?_eq_none (by omega)
    cases hw:writer all t with
    | none=>exact hn.symm
    | some j=>cases hL:L j <;> simp [hn,h]
theorem detAct_put {all:List Oper} (hd:DrawOk all) {L L':Nat→Bool} {i:Nat} {o:Oper} (hi:all[i]? = some o) (hL:∀ j,L' j=(L j||j == i)):(detAct all vals a L).put o.dst (vals i)=detAct all vals a L':=by
  have hsz:∀ L,(detAct all vals a L).tmps.size=a.tmps.size:=fun L=>by simp [detAct]
  have key:∀ t:Nat,((detAct all vals a L).put o.dst (vals i)).tmps[t]? = (detAct all vals a L').tmps[t]?:=by
    intro t
    rw [detAct_get]
    cases hod:o.dst with
    | none =>
      simp only [Act.put]
      rw [detAct_get]
      cases hw:writer all t with
      | none=>rfl
      | some j =>
        simp only
        have hne:j≠i:=by
          rintro rfl
          have:=List.findIdx?_eq_some_iff_getElem.mp hw
          obtain ⟨h1,h2,_⟩:=this
          have h3:all[j]=o:=by rw [List.getElem?_eq_getElem h1] at hi;exact Option.some.inj hi
          rw [h3,hod] at h2
          simp at h2
        rw [hL j]
        have:(j == i)=false:=by simpa using hne
        rw [this,Bool.or_false]
    | some d =>
      simp only [Act.put]
      have hw:=hd.dst i o hi d hod
      by_cases ht:t=d
      · subst ht
        rw [hw]
        simp only
        rw [hL i]
        simp only [beq_self_eq_true,Bool.or_true,cond_true]
        rw [Array.getElem?_setIfInBounds_self]
        rw [hsz]
      · rw [Array.getElem?_setIfInBounds_ne (by omega),detAct_get]
        cases hw2:writer all t with
        | none=>rfl
        | some j =>
          simp only
          have hne:j≠i:=by
            rintro rfl
            obtain ⟨h1,h2,_⟩:=List.findIdx?_eq_some_iff_getElem.mp hw2
            have h3:all[j]=o:=by rw [List.getElem?_eq_getElem h1] at hi;exact Option.some.inj hi
            rw [h3,hod] at h2
            simp at h2
            exact ht h2.symm
          rw [hL j]
          have:(j == i)=false:=by simpa using hne
          rw [this,Bool.or_false]
  have e:((detAct all vals a L).put o.dst (vals i)).tmps=(detAct all vals a L').tmps:=by
    apply Array.ext_getElem?
    exact key
  have e2:((detAct all vals a L).put o.dst (vals i)).defers=(detAct all vals a L').defers:=by cases o.dst <;> rfl
  have ext:∀ x y:Act,x.tmps=y.tmps→x.defers=y.defers→x=y:=by
    intro x y h1 h2
    cases x;cases y
    simp only at h1 h2
    subst h1;subst h2;rfl
  exact ext _ _ e e2
theorem told_region (hok:detOk ops.toList=true) (sp:List Nat) (ws:Nat→World)
    (hsp:∀ (c i:Nat),sp[c]? = some i→∃ o,ops.toList[i]? = some o∧RunsAs P o (detAct ops.toList vals a fun _=>true).eval (ws c) (vals i) (ws (c+1))∧(0<c→∃ j,sp[c-1]? = some j∧j∈edges o))
    (hpure:∀ (i:Nat) (o:Oper) (c:Nat),ops.toList[i]? = some o→i ∉ sp→c≤sp.length→(∀ (c' j:Nat) (oj:Oper),c'<c→sp[c']? = some j→ops.toList[j]? = some oj→i ∉ edges oj)→RunsAs P o (detAct ops.toList vals a fun _=>true).eval (ws c) (vals i) (ws c))
    (hnd:sp.Nodup) {Q:Exit→Act→World→Prop} (hQ:Q .normal (detAct ops.toList vals a fun _=>true) (ws sp.length)) :
    wpAny P .any ops Q ops.size (Array.replicate ops.size false) a (ws 0):=by
  unfold detOk at hok
  rw [Bool.and_eq_true] at hok
  obtain ⟨hcore,hall⟩:=hok
  have hd:=drawCore_sound hcore
  have hop:∀ (i:Nat) (o:Oper),ops.toList[i]? = some o→o.guard=none∧(∀ cs b,o.op ≠ .select cs b)∧∀ t∈looked o,∀ j,writer ops.toList t=some j→j∈edges o:=by
    intro i o hi
    have:=List.all_eq_true.mp hall o (List.mem_of_getElem? hi)
    rw [Bool.and_eq_true,Bool.and_eq_true] at this
    obtain ⟨⟨h1,h2⟩,h3⟩:=this
    refine ⟨(by cases hg:o.guard with | none=>rfl | some x=>(rw [hg] at h1;cases h1)),fun cs b e=>(by rw [e] at h2;cases h2),fun t ht j hj=>?_⟩
    have:=List.all_eq_true.mp h3 t ht
    rw [hj] at this
    simpa using this
  have stage_step:∀ (L L':Nat→Bool) (i:Nat),(∀ j,L' j=(L j||j == i))→L i=false→∀ (sp:List Nat),sp.Nodup→(∀ c:Nat,sp[c]? = some i→∀ c':Nat,c'<c→∀ j,sp[c']? = some j→L j=true)→(∀ c c' j j':Nat,c<c'→sp[c]? = some j→sp[c']? = some j'→L j'=true→L j=true) →
      (i ∉ sp→detStage sp L'=detStage sp L)∧(∀ c:Nat,sp[c]? = some i→detStage sp L=c∧detStage sp L'=c+1):=by
    intro L L' i hL hi sp
    induction sp with
    | nil=>intro _ _ _;exact ⟨fun _=>rfl,fun c hc=>by simp at hc⟩
    | cons s r ih =>
      intro hnd hpre hmono
      rw [List.nodup_cons] at hnd
      have ih:=ih hnd.2 (fun c hc c' hc' j hj=>hpre (c+1) (by simpa using hc) (c'+1) (by omega) j (by simpa using hj)) (fun c c' j j' hcc h1 h2=>hmono (c+1) (c'+1) j j' (by omega) (by simpa using h1) (by simpa using h2))
      refine ⟨fun hn=>?_,fun c hc=>?_⟩
      · rw [List.mem_cons,not_or] at hn
        have : L' s = L s := by rw [hL]; have : (s == i) = false := by simpa using Ne.symm hn.1
                                rw [this,Bool.or_false]
        simp only [detStage,this,ih.1 hn.2]
      · cases c with
        | zero =>
          simp only [List.getElem?_cons_zero,Option.some.injEq] at hc
          subst hc
          have h1:L' s=true:=by rw [hL];simp
          simp only [detStage,hi,h1,cond_false,cond_true]
          refine ⟨trivial,?_⟩
          rw [ih.1 hnd.1]
          cases r with
          | nil=>rfl
          | cons s2 r2 =>
            have:L s2=false:=by
              cases hq:L s2 with
              | false=>rfl
              | true=>have:=hmono 0 1 s s2 (by omega) rfl rfl hq;rw [hi] at this;cases this
            simp only [detStage,this,cond_false]
        | succ c =>
          have hs:L s=true:=hpre (c+1) hc 0 (by omega) s rfl
          have hs':L' s=true:=by rw [hL,hs];rfl
          simp only [detStage,hs,hs',cond_true]
          obtain ⟨h1,h2⟩:=ih.2 c (by simpa using hc)
          exact ⟨by rw [h1],by rw [h2]⟩
  have stage_all:∀ (sp:List Nat),detStage sp (fun _=>true)=sp.length:=by
    intro sp
    induction sp with
    | nil=>rfl
    | cons s r ih=>simp only [detStage,cond_true,ih,List.length_cons]
  have stage_le:∀ (L:Nat→Bool) (sp:List Nat),detStage sp L≤sp.length:=by
    intro L sp
    induction sp with
    | nil=>exact Nat.le_refl _
    | cons s r ih=>simp only [detStage,List.length_cons];cases L s <;> simp only [cond_true,cond_false] <;> omega
  have stage_done:∀ (L:Nat→Bool) (sp:List Nat) (c j:Nat),c<detStage sp L→sp[c]? = some j→L j=true:=by
    intro L sp
    induction sp with
    | nil=>intro c j h;exact absurd h (Nat.not_lt_zero _)
    | cons s r ih =>
      intro c j h hj
      simp only [detStage] at h
      cases hs:L s with
      | false=>rw [hs,cond_false] at h;exact absurd h (Nat.not_lt_zero _)
      | true =>
        rw [hs,cond_true] at h
        cases c with
        | zero=>simp only [List.getElem?_cons_zero,Option.some.injEq] at hj;subst hj;exact hs
        | succ c=>exact ih c j (by omega) (by simpa using hj)
  have hmonoL:∀ L,Closed ops.toList L→∀ (c c' j j':Nat),c<c'→sp[c]? = some j→sp[c']? = some j'→L j'=true→L j=true:=by
    intro L hcl c c'
    induction c' with
    | zero=>intro j j' h;omega
    | succ c' ih =>
      intro j j' hlt hj hj' hLj'
      obtain ⟨o,ho,_,hprev⟩:=hsp (c'+1) j' hj'
      obtain ⟨jp,hjp,hje⟩:=hprev (by omega)
      have hLp:L jp=true:=hcl j' o ho hLj' jp hje
      rw [Nat.add_sub_cancel] at hjp
      rcases Nat.lt_or_ge c c' with q | q
      · exact ih j jp q hj hjp hLp
      · have:c=c':=by omega
        subst this
        rw [hj] at hjp;cases hjp;exact hLp
  have key:∀ (fuel:Nat) (listed:Array Bool),listed.size=ops.size→(unlisted ops.size listed).length≤fuel→Closed ops.toList (fun j=>listed.getD j false) →
      wpAny P .any ops Q fuel listed (detAct ops.toList vals a fun j=>listed.getD j false) (ws (detStage sp fun j=>listed.getD j false)):=by
    have atEnd:∀ (fuel:Nat) (listed:Array Bool),listed.size=ops.size→(∀ i,i<ops.size→listed.getD i false=true)→wpAny P .any ops Q fuel listed (detAct ops.toList vals a fun j=>listed.getD j false) (ws (detStage sp fun j=>listed.getD j false)):=by
      intro fuel listed hn hdone
      have e1:detAct ops.toList vals a (fun j=>listed.getD j false)=detAct ops.toList vals a fun _=>true:=by
        unfold detAct
        congr 1
        congr 1
        funext t
        cases hw:writer ops.toList t.val with
        | none=>rfl
        | some j =>
          have hj:j<ops.size:=by
            obtain ⟨h1,_,_⟩:=List.findIdx?_eq_some_iff_getElem.mp hw
            simpa using h1
          simp only [hdone j hj]
      have e2:detStage sp (fun j=>listed.getD j false)=sp.length:=by
        have:∀ (r:List Nat),(∀ j∈r,j<ops.size)→detStage r (fun j=>listed.getD j false)=r.length:=by
          intro r
          induction r with
          | nil=>intro _;rfl
          | cons s r ih=>intro h;simp only [detStage,hdone s (h s List.mem_cons_self),cond_true,List.length_cons,ih fun j hj=>h j (List.mem_cons_of_mem _ hj)]
        refine this sp fun j hj=>?_
        obtain ⟨c,hc⟩:=List.getElem?_of_mem hj
        obtain ⟨o,ho,_⟩:=hsp c j hc
        have:=lt_get ho
        simpa using this
      rw [e1,e2]
      refine wpAny_done ?_ hQ fuel
      apply List.eq_nil_iff_forall_not_mem.mpr
      intro i hi
      obtain ⟨o,ho,hul,_⟩:=(ready_iff hn).mp hi
      have hin:i<ops.size:=by have:=lt_get ho;simpa using this
      rw [hdone i hin] at hul;cases hul
    intro fuel
    induction fuel with
    | zero =>
      intro listed hn hc hcl
      refine atEnd 0 listed hn fun i hi=>?_
      have hnil:unlisted ops.size listed=[]:=List.eq_nil_of_length_eq_zero (by omega)
      unfold unlisted at hnil
      rw [List.filter_eq_nil_iff] at hnil
      have:=hnil i (by simpa using hi)
      rw [getD_true (by omega)] at this
      simpa using this
    | succ fuel ih =>
      intro listed hn hc hcl
      by_cases hdone:∀ i,i<ops.size→listed.getD i false=true
      · exact atEnd _ listed hn hdone
      refine ⟨fun hready=>absurd ?_ hdone,fun i hi=>?_⟩
      · intro i
        induction i using Nat.strongRecOn with
        | _ i ih =>
          intro hin
          cases hl:listed.getD i false with
          | true=>rfl
          | false =>
            exfalso
            have hoi':ops.toList[i]? = some ops[i]:=by rw [Array.getElem?_toList];exact Array.getElem?_eq_getElem hin
            have:i∈Region.ready .any ops listed:=(ready_iff hn).mpr ⟨_,hoi',hl,fun e he=>by
              obtain ⟨e',he',hbnd,rfl⟩:=edges_mem he
              have:=hd.back i _ hoi' e' he' hbnd
              exact ih e'.on this (by omega)⟩
            rw [hready] at this
            cases this
      obtain ⟨o,hoi',hul,hdep⟩:=(ready_iff hn).mp hi
      have hin:i<ops.size:=by have:=lt_get hoi';simpa using this
      have hoi:ops[i]? = some o:=by rw [← Array.getElem?_toList];exact hoi'
      obtain ⟨hg,hsel,hrd⟩:=hop i o hoi'
      have hexec:execOp (detAct ops.toList vals a fun j=>listed.getD j false).eval o=execOp (detAct ops.toList vals a fun _=>true).eval o:=by
        refine execOp_congr o hsel fun x hx=>?_
        cases x with
        | tmp t =>
          show (detAct ops.toList vals a _).tmps.getD t undef=(detAct ops.toList vals a _).tmps.getD t undef
          rw [Array.getD_eq_getD_getElem?,Array.getD_eq_getD_getElem?,detAct_get,detAct_get]
          cases hw:writer ops.toList t with
          | none=>rfl
          | some j =>
            have:=hdep j (hrd t (looked_mem hx) j hw)
            simp only [this]
        | const v=>rfl
        | global g=>rfl
        | func f=>rfl
      have hn':(listed.setIfInBounds i true).size=ops.size:=by simpa using hn
      have hc':(unlisted ops.size (listed.setIfInBounds i true)).length≤fuel:=by
        have:=unlisted_less hn hin (by rw [getD_true (by omega)];exact hul);omega
      have hcl':=closed_set hn hin hoi' hdep hcl
      have hput:=detAct_put (vals:=vals) (a:=a) hd (L:=fun j=>listed.getD j false) (L':=fun j=>(listed.setIfInBounds i true).getD j false) hoi' (fun j=>getD_set hn hin j)
      have hst:=stage_step (fun j=>listed.getD j false) (fun j=>(listed.setIfInBounds i true).getD j false) i (fun j=>getD_set hn hin j) hul sp hnd (fun c hc c' hc' j hj=>by
        obtain ⟨o',ho',_,hprev⟩:=hsp c i hc
        rw [hoi'] at ho';cases ho'
        obtain ⟨jp,hjp,hje⟩:=hprev (by omega)
        have hLp:=hdep jp hje
        rcases Nat.lt_or_ge c' (c-1) with q | q
        · exact hmonoL _ hcl c' (c-1) j jp q hj hjp hLp
        · have:c'=c-1:=by omega
          subst this
          rw [hj] at hjp;cases hjp;exact hLp) (hmonoL _ hcl)
      have hnext:=ih _ hn' hc' hcl'
      rw [← hput] at hnext
      have hrun:RunsAs P o (detAct ops.toList vals a fun j=>listed.getD j false).eval (ws (detStage sp fun j=>listed.getD j false)) (vals i) (ws (detStage sp fun j=>(listed.setIfInBounds i true).getD j false)):=by
        unfold RunsAs
        rw [hexec]
        by_cases hin:i∈sp
        · obtain ⟨c,hc⟩:=List.getElem?_of_mem hin
          obtain ⟨h1,h2⟩:=hst.2 c hc
          obtain ⟨o',ho',hr,_⟩:=hsp c i hc
          rw [hoi'] at ho';cases ho'
          rw [h1,h2];exact hr
        · rw [hst.1 hin]
          refine hpure i o _ hoi' hin (stage_le _ _) fun c' j oj hlt hj hoj hie=>?_
          have:=hcl j oj hoj (stage_done _ sp c' j hlt hj) i hie
          simp only at this
          rw [this] at hul;cases hul
      unfold wpOp
      simp only [hoi]
      have hw:Region.wanted o (yielded ops (detAct ops.toList vals a fun j=>listed.getD j false).tmps)=true:=by unfold Region.wanted;rw [hg]
      rw [if_pos hw]
      refine Or.inl ?_
      unfold Oper.wp
      rcases hrun with hrun | ⟨hrun,hu⟩
      · rw [hrun];exact hnext
      · rw [hrun]
        rw [hu] at hnext
        exact hnext
  have h0:=key ops.size (Array.replicate ops.size false) (by simp) (by
    unfold unlisted
    exact Nat.le_trans (List.length_filter_le _ _) (by simp)) (fun j oj _ hj=>by
      simp only [Array.getD_eq_getD_getElem?,Array.getElem?_replicate] at hj
      split at hj <;> simp at hj)
  have hL0:(fun j=>(Array.replicate ops.size false).getD j false)=fun _=>false:=by
    funext j
    simp only [Array.getD_eq_getD_getElem?,Array.getElem?_replicate]
    split <;> rfl
  rw [hL0] at h0
  have e1:detAct ops.toList vals a (fun _=>false)=a:=by
    have ext:∀ x y:Act,x.tmps=y.tmps→x.defers=y.defers→x=y:=by
      intro x y h1 h2
      cases x;cases y
      simp only at h1 h2
      subst h1;subst h2;rfl
    refine ext _ _ ?_ rfl
    apply Array.ext_getElem?
    intro t
    rw [detAct_get]
    cases writer ops.toList t <;> rfl
  have e2:detStage sp (fun _=>false)=0:=by cases sp <;> rfl
  rw [e1,e2] at h0
  exact h0
end
end Go.Proofs.YtnohkcklakipoaaGreatDoor.Ev
namespace Go.Proofs.YtnohkcklakipoaaGreatDoor.Ev
open Go Go.RowKit
set_option linter.unusedVariables false
set_option linter.unusedSimpArgs false
section
variable {P:Program} {w:World} {ρ:Operand→Value} {o:Oper}
theorem as_move {x:Operand} (ho:o.op = .move x∨o.op = .assign x):RunsAs P o ρ w (ρ x) w:=by
  refine Or.inl ?_
  unfold execOp
  rcases ho with ho | ho <;> simp only [ho] <;> rfl
theorem as_nilCheck {x:Operand} {ad:Addr} (ho:o.op = .nilCheck x) (hx:ρ x = .pointer (some ad)):RunsAs P o ρ w (ρ x) w:=by
  refine Or.inl ?_
  unfold execOp
  simp only [ho,hx]
  rfl
theorem as_fieldAddr {t:TypeId} {ty u:Ty} {x:Operand} {f d b g:Nat} (hty:TyOf P t ty) (hf:ty.field f=some (d,u)) (ho:o.op = .fieldAddr t x f) (hx:ρ x = .pointer (some ⟨b,g,none⟩)):RunsAs P o ρ w (.pointer (some ⟨b,g+d,none⟩)) w:=by
  refine Or.inl ?_
  obtain ⟨fs,fld,h1,h2,h3,h4⟩:=hty.field hf
  unfold execOp
  simp only [ho]
  refine runsTo_of ?_
  have hsz:u.size≠0:=by have:=u.size_pos;omega
  simp [Instr.fieldAt,run_underlying h1,h2,hx,Instr.sureAddr,fieldPlace,run_sizeOf h4,hsz,add_none,h3]
theorem as_load {t:TypeId} {ty:Ty} {x:Operand} {b g:Nat} {vs:List Value} (hty:TyOf P t ty) (ho:o.op = .load t x) (hx:ρ x = .pointer (some ⟨b,g,none⟩)) (hl:vs.length=ty.size) (hc:∀ j c,vs[j]? = some c→w.cell? ⟨b,g+j,none⟩=some c) :
    RunsAs P o ρ w (match ty.isAgg with | true=>.agg vs.toArray | false=>vs.headD undef) w:=by
  refine Or.inl ?_
  unfold execOp
  simp only [ho]
  refine runsTo_of ?_
  rw [hx]
  show ((Instr.sureAddr _ >>= fun ad=>loadVar t ad):Sem Value).run P w=_
  simp only [Instr.sureAddr,Sem.run_bind,Sem.run_pure,Result.andThen_ok]
  exact run_loadVar hty hl hc
theorem as_store {t:TypeId} {ty:Ty} {ad x:Operand} {k off:Nat} {vals:Array Value} {vty:TypeId} {fz:Nat × Nat} (hty:TyOf P t ty) (ho:o.op = .store t ad x) (hx:ρ ad = .pointer (some ⟨k,off,none⟩)) (hk:w.heap[k]? = some (.cells vals vty fz)) (hf:unfrozen vals fz)
    (hsz:(ρ x).cells.size=ty.size) (hone:∀ u∈(ρ x).cells.toList,u.oneCell'=true) (hfit:off+ty.size≤vals.size):RunsAs P o ρ w undef (rowSet w k (writeAt vals.toList off (ρ x).cells.toList) vty fz):=by
  refine Or.inr ⟨?_,rfl⟩
  have hrun:=run_storeCells (P:=P) (off:=off) (ρ x).cells.toList 0 w vals hk hf hone (by rw [Array.length_toList,hsz];omega)
  rw [Nat.add_zero] at hrun
  unfold execOp
  simp only [ho]
  simp [Instr.storeAt,hx,Instr.sureAddr,storeVar,run_sizeOf hty,hsz,hrun]
theorem as_build {t:TypeId} {xs:Array (Nat × Operand)} {ys:Array (Nat × Value)} {v:Value} {w':World} (ho:o.op = .build t xs) (hxs:xs.map (fun p=>(p.1,ρ p.2))=ys) (hr:(Instr.build t ys).run P w = .ok v w'):RunsAs P o ρ w v w':=by
  refine Or.inl ?_
  subst hxs
  unfold execOp
  simp only [ho]
  simp [hr]
theorem as_buildSlice {t:TypeId} {n:Nat} {xs:Array (Nat × Operand)} {ys:Array (Nat × Value)} {v:Value} {w':World} (ho:o.op = .buildSlice t n xs) (hxs:xs.map (fun p=>(p.1,ρ p.2))=ys) (hr:(Instr.buildSlice t n ys).run P w = .ok v w'):RunsAs P o ρ w v w':=by
  refine Or.inl ?_
  subst hxs
  unfold execOp
  simp only [ho]
  simp [hr]
theorem as_append {c:Call} {x y:Operand} {t0 t1:TypeId} {v:Value} {w':World} (ho:o.op = .call c) (hc:c.callee = .builtin .append) (hxy:c.args=#[x,y]) (hts:c.argTypes=#[t0,t1]) (hr:(Builtin.append_ #[t0,t1] o.type #[ρ x,ρ y]).run P w = .ok v w'):RunsAs P o ρ w v w':=by
  refine Or.inl ?_
  unfold execOp
  simp only [ho]
  simp [resolve,hc,hxy,hts,invoke,builtin,hr]
end
end Go.Proofs.YtnohkcklakipoaaGreatDoor.Ev
namespace Go.Proofs.YtnohkcklakipoaaGreatDoor.Ev
open Go Go.RowKit
set_option linter.unusedVariables false
set_option linter.unusedSimpArgs false
variable {ρ:Type}
structure TellFn where
  f:FuncId
  nt:Nat
  first:Code
  rest:Code
  t:Ty
  sem:t.den→Option t.den
structure TellFn.ok (P:Program) (T:TellFn):Prop where
  fn:∃ fn,P.funcs[T.f]? = some fn∧fn.name ≠ "runtime.NumGoroutine" ∧ fn.body=some (.seq T.first T.rest)∧fn.ntmps=T.nt∧fn.results=#[]
  rest:∀ (E:Env) (w0 w:World) (μ:Lie) (bl:List Blk) (τ:Nat→List Nat) (a:Act) (s b g i:Nat) (c0 c2:A) (l:List T.t.den) (x y:T.t.den),Mem E w0 w μ bl→TreeOk E w μ bl τ→a.defers=[]→T.nt≤a.tmps.size→isPtr μ bl s 0 (a.tmps.getD 0 undef) →
    bl[s]? = some (.var [c0,.ep b g i 0,c2])→bl[b]? = some (.arr g true true T.t l)→l[i]? = some x→T.sem x=some y →
    T.rest.wp P (fun e a' w'=>(e = .normal∨e = .ret)∧a'.defers=[]∧∃ F τ',Change E w μ bl τ w' (bl.set b (.arr g true true T.t (l.set i y))) [b] F τ') a w
noncomputable def evTell (cx:Cx) (d:Nat) (T:TellFn) (args:List V) (st:St) (K:V→St→Option ρ):Option ρ :=
  evCode cx (evInl cx d) [] T.first { st with tmps:=enter T.nt args } fun e st1=>match e with
    | .normal=>match st1.tmps.getD 0 V.undef with
      | .at (.ptr s 0)=>match st1.bl[s]? with
        | some (.var [_,.ep b g i 0,_])=>match st1.bl[b]? with
          | some (.arr g' true true t l)=>match Ty.eq? t T.t with
            | some ⟨h⟩=>bif g == g'&&quietBl st1.bl 0 [b] then (match (h ▸ l:List T.t.den)[i]? with
              | some x=>(T.sem x).bind fun y=>K V.undef { st1 with tmps:=st.tmps.map V.quiet,bl:=st1.bl.set b (.arr g true true T.t ((h ▸ l:List T.t.den).set i y)) }
              | none=>none) else none
            | none=>none
          | _=>none
        | _=>none
      | _=>none
    | _=>none
noncomputable def evTOp (cx:Cx) (d:Nat) (T:TellFn) (o:Oper) (st:St) (K:V→St→Option ρ):Option ρ :=
  match o.op with
  | .call c=>match c.callee with
    | .value (.func f)=>bif Nat.beq f T.f then evTell cx d T (c.args.toList.map st.get) st K else evOp cx (evInl cx d) [] o st K
    | _=>evOp cx (evInl cx d) [] o st K
  | _=>evOp cx (evInl cx d) [] o st K
noncomputable def evTOps (cx:Cx) (d:Nat) (T:TellFn) (all:List Oper):List Oper→St→(St→Option ρ)→Option ρ
  | [],st,K=>K st
  | o :: r,st,K=>forceSt st fun st =>
    match o.guard with
    | none=>evTOp cx d T o st fun v st=>evTOps cx d T all r (st.put o.dst v) K
    | some _=>none
def isTell (T:TellFn) (o:Oper):Bool :=
  match o.op with
  | .call c=>match c.callee with
    | .value (.func f)=>Nat.beq f T.f
    | _=>false
  | _=>false
noncomputable def evTCode (cx:Cx) (d:Nat) (T:TellFn):Code→St→(Ex→St→Option ρ)→Option ρ
  | .region id ops draw,st,K=>bif !draw&&ops.toList.any (isTell T) then evTOps cx d T ops.toList ops.toList st (K .normal) else evCode cx (evInl cx d) [] (.region id ops draw) st K
  | .seq a b,st,K=>evTCode cx d T a st fun e st=>match e with
    | .normal=>evTCode cx d T b st K
    | e=>K e st
  | .cond (.tmp t) a b,st,K=>match st.tmps.getD t V.undef with
    | .at (.bool c)=>bif c then evTCode cx d T a (st.put (some t) (.at (.bool true))) K else evTCode cx d T b (st.put (some t) (.at (.bool false))) K
    | _=>none
  | .block id a,st,K=>evTCode cx d T a st fun e st=>match e with
    | .exit i=>bif i == id then K .normal st else K (.exit i) st
    | e=>K e st
  | .skip,st,K=>K .normal st
  | .exit id,st,K=>K (.exit id) st
  | .ret,st,K=>K .ret st
  | _,_,_=>none
def Ty.oldV:(t:Ty)→t.den→V
  | .struct b,x=>.agg (b.olds x)
  | .int k,n=>.at (.int k n)
  | .bool,b=>.at (.bool b)
  | .str,s=>.at (.str s)
  | .err,b=>.at (.err b)
  | .adr,_=>.at .undef
  | .slice e,l=>.at (.old e l)
  | .pair _ _,_=>V.undef
def oldArgs:(ts:List Ty)→denL ts→List V
  | [],_=>[]
  | t :: ts,x=>t.oldV x.1 :: oldArgs ts x.2
noncomputable def evTFn (cx:Cx) (d:Nat) (T:TellFn) (fn:Func) (params:List Ty) (res:List (Ty × Bool)) (fresh:Bool) (x:denL params):Option (denR res) :=
  match fn.body with
  | some c=>evTCode cx d T c { tmps:=enter fn.ntmps (oldArgs params x),bl:=[],lock:=[] } fun e st'=>match e with
    | .exit _=>none
    | _=>endFn cx fn res fresh st'
  | none=>none
section
variable {P:Program} {cx:Cx} {d:Nat} {T:TellFn} {E:Env} {w0 w:World} {μ:Lie} {st:St} {a:Act} {o:Oper}
theorem call_enter {f:FuncId} {c:Call} (ho:o.op = .call c) (hfn:∃ fn,P.funcs[f]? = some fn∧fn.name ≠ "runtime.NumGoroutine" ∧ fn.body.isSome=true) (hc:c.callee = .value (.func f)) :
    (execOp a.eval o).run P w = .ok (.enter f (c.args.map a.eval)) w:=by
  obtain ⟨fn,h1,h2,h3⟩:=hfn
  have hb:¬ fn.body=none:=by intro hq;rw [hq] at h3;cases h3
  have hx:a.eval (.func f) = .func (.func f) #[] #[]:=rfl
  unfold execOp
  simp only [ho]
  simp [resolve,hc,hx,Deferred.ofValue,invoke,callFunc,h1,h2,hb]
theorem args_reps (hR:Rel E w0 μ st a w):∀ xs:List Operand,All2 (RepV E w μ st.bl) (xs.map st.get) (xs.map a.eval)
  | []=>trivial
  | x :: xs=>⟨hR.get x,args_reps hR xs⟩
theorem evTell_sound (hcx:cx.good P E.G) (hT:T.ok P) (hR:Rel E w0 μ st a w) {Xs:List V} {vs:List Value} (hX:All2 (RepV E w μ st.bl) Xs vs) {K:V→St→Option ρ} {r:ρ} (h:evTell cx d T Xs st K=some r) :
    Calls P T.f vs.toArray w fun e w'=>match e with
      | .returned v=>∃ X st' μ',K X st'=some r∧RepV E w' μ' st'.bl X v∧Rel E w0 μ' st' a w'
      | _=>False:=by
  obtain ⟨fn,p1,p2,p3,p4,p5⟩:=hT.fn
  refine calls_of_wp p1 p3 (wp_seq ?_)
  have hlen:=hX.length
  have hR1:Rel E w0 μ { st with tmps:=enter T.nt Xs } { tmps:=vs.toArray++Array.replicate (fn.ntmps-vs.toArray.size) undef,defers:=[] } w:=by
    refine ⟨hR.mem,?_,rfl,hR.tree⟩
    simp only [enter,Array.toList_append,Array.toList_replicate,List.size_toArray]
    rw [hlen,p4]
    refine hX.append ?_
    generalize T.nt-vs.length=m
    induction m with
    | zero=>trivial
    | succ m ih=>exact ⟨RepV.undef,ih⟩
  unfold evTell at h
  refine wp_mono (evCode_sound hcx (evInl_sound hcx d) T.first w0 _ _ r μ _ w hR1 h) ?_
  rintro e a1 w1 ⟨ex,st1,μ1,rfl,hk,hR2,kp,gs⟩
  cases ex with
  | exit i=>cases hk
  | ret=>cases hk
  | normal =>
  simp only at hk
  split at hk
  case h_2=>cases hk
  next s hs =>
  split at hk
  case h_2=>cases hk
  next c0 b g i c2 hsb =>
  split at hk
  case h_2=>cases hk
  next g' t l hb =>
  split at hk
  case h_2=>cases hk
  next ht _ =>
  subst ht
  have hq:=(cond_none hk).1
  replace hk:=(cond_none hk).2
  rw [Bool.and_eq_true,beq_iff_eq] at hq
  obtain ⟨rfl,hq⟩:=hq
  split at hk
  case h_2=>cases hk
  next x hx =>
  cases hy:T.sem x with
  | none=>rw [hy] at hk;cases hk
  | some y =>
  rw [hy,Option.bind_some] at hk
  obtain ⟨τ,hτ⟩:=hR2.tree
  have hp:=hR2.tmp 0
  rw [hs] at hp
  have hsz:T.nt≤a1.tmps.size:=by
    have h1:=All2.length hR2.slots
    rw [Array.length_toList] at h1
    rw [← h1,kp.len]
    simp only [enter,List.length_append,List.length_replicate]
    omega
  refine wp_mono (hT.rest E w0 w1 μ1 st1.bl τ a1 s b g i c0 c2 l x y hR2.mem hτ hR2.defers hsz hp hsb hb hx hy) ?_
  rintro e a' w' ⟨he,hd,F,τ',hch⟩
  have hRc:Rel E w0 μ1 { st1 with tmps:=st.tmps } a w1:=⟨hR2.mem,All2.imp (fun _ _ hx=>gs.evo.repV hx) hR.slots,hR.defers,hR2.tree⟩
  have hfin:=hch.rel (st:={ st1 with tmps:=st.tmps }) hRc hτ hq
  have hres:(results fn a'.tmps).run P w' = .ok (.tuple #[]) w':=by
    rw [results_eq,p5];simp
  rcases he with rfl | rfl
  · exact ⟨hd,_,hres,_,_,μ1,hk,trivial,hfin⟩
  · exact ⟨hd,_,hres,_,_,μ1,hk,trivial,hfin⟩
def TPost (E:Env) (w0:World) (K:Ex→St→Option ρ) (r:ρ) (e:Exit) (a':Act) (w':World):Prop :=
  ∃ ex st' μ',exOf ex=e∧K ex st'=some r∧Rel E w0 μ' st' a' w'
theorem evTOp_sound (hcx:cx.good P E.G) (hT:T.ok P) {K:V→St→Option ρ} {r:ρ} (hR:Rel E w0 μ st a w) (h:evTOp cx d T o st K=some r) {next:Act→World→Prop} {X:Exit→Act→World→Prop}
    (hn:∀ x st' μ' v w',K x st'=some r→RepV E w' μ' st'.bl x v→Rel E w0 μ' st' a w'→next (a.put o.dst v) w'):o.wp P a w next X:=by
  have plain:evOp cx (evInl cx d) [] o st K=some r→o.wp P a w next X:=fun h=>evOp_sound hcx (evInl_sound hcx d) hR h next X fun x st' μ' v w' h1 h2 h3 _ _=>hn x st' μ' v w' h1 h2 h3
  unfold evTOp at h
  split at h
  · next c ho =>
    split at h
    · next f hf =>
      cases hff:Nat.beq f T.f with
      | false=>rw [hff] at h;exact plain h
      | true =>
        rw [hff] at h
        have hff:f=T.f:=Nat.eq_of_beq_eq_true hff
        subst hff
        obtain ⟨fn,p1,p2,p3,p4,p5⟩:=hT.fn
        have hX:=args_reps hR c.args.toList
        unfold Oper.wp
        rw [call_enter ho ⟨fn,p1,p2,by rw [p3];rfl⟩ hf,Oper.upon_enter]
        have harr:c.args.map a.eval=(c.args.toList.map a.eval).toArray:=by apply Array.ext';simp
        rw [harr]
        refine (evTell_sound hcx hT hR hX h).mono fun e w' hp=>?_
        cases e with
        | panicked c=>exact hp.elim
        | outgrown=>exact hp.elim
        | returned v =>
          obtain ⟨x,st',μ',q1,q2,q3⟩:=hp
          exact hn x st' μ' v w' q1 q2 q3
    · exact plain h
  · exact plain h
theorem evTOps_sound (hcx:cx.good P E.G) (hT:T.ok P) {ops:Array Oper} {X:Exit→Act→World→Prop} {r:ρ} {K:St→Option ρ} :
    ∀ (rest:List Oper) (i:Nat) (st:St) (μ:Lie) (a:Act) (w:World),ops.toList.drop i=rest→Rel E w0 μ st a w→evTOps cx d T ops.toList rest st K=some r →
      (∀ st' μ' a' w',K st'=some r→Rel E w0 μ' st' a' w'→X .normal a' w')→wpOps P ops X (List.range' i rest.length) a w
  | [],i,st,μ,a,w,_,hR,h,hQ=>hQ st μ a w h hR
  | o :: rest,i,st,μ,a,w,hd,hR,h,hQ=>by
    have hi:ops.toList[i]? = some o:=by
      have:=congrArg (fun l=>l[0]?) hd
      simpa using this
    have hi':ops[i]? = some o:=by rw [← Array.getElem?_toList];exact hi
    have hd':ops.toList.drop (i+1)=rest:=by
      have:=congrArg List.tail hd
      simpa using this
    rw [List.length_cons,List.range'_succ]
    unfold wpOps
    simp only [hi']
    unfold evTOps at h
    rw [forceSt_eq] at h
    split at h
    case h_2=>cases h
    next hg =>
    have hw:Region.wanted o (yielded ops a.tmps)=true:=by unfold Region.wanted;rw [hg]
    rw [if_pos hw]
    refine Or.inl (evTOp_sound hcx hT hR h fun x st' μ' v w' hk hx r'=>?_)
    exact evTOps_sound hcx hT rest (i+1) _ μ' _ w' hd' (r'.put o.dst hx) hk hQ
theorem evTCode_sound (hcx:cx.good P E.G) (hT:T.ok P):∀ (c:Code) (st:St) (K:Ex→St→Option ρ) (r:ρ) (μ:Lie) (a:Act) (w:World),Rel E w0 μ st a w→evTCode cx d T c st K=some r→c.wp P (TPost E w0 K r) a w:=by
  intro c
  induction c with
  | skip =>
    intro st K r μ a w hR h
    exact wp_skip ⟨.normal,st,μ,rfl,h,hR⟩
  | region id ops draw =>
    intro st K r μ a w hR h
    unfold evTCode at h
    cases hc:!draw&&ops.toList.any (isTell T) with
    | false =>
      rw [hc,cond_false] at h
      refine wp_mono (evCode_sound hcx (evInl_sound hcx d) (.region id ops draw) w0 st K r μ a w hR h) ?_
      rintro e a' w' ⟨ex,st',μ',q1,q2,q3,_,_⟩
      exact ⟨ex,st',μ',q1,q2,q3⟩
    | true =>
      rw [hc,cond_true] at h
      rw [Bool.and_eq_true,Bool.not_eq_true'] at hc
      obtain ⟨rfl,_⟩:=hc
      refine wp_region ?_
      rw [List.range_eq_range',show ops.size=ops.toList.length by simp]
      exact evTOps_sound hcx hT ops.toList 0 st μ a w rfl hR h fun st' μ' a' w' q1 q2=>⟨.normal,st',μ',rfl,q1,q2⟩
  | seq x y ihx ihy =>
    intro st K r μ a w hR h
    unfold evTCode at h
    refine wp_seq (wp_mono (ihx st _ r μ a w hR h) ?_)
    rintro e a1 w1 ⟨ex,st1,μ1,rfl,hk,hR1⟩
    cases ex with
    | normal=>exact ihy st1 K r μ1 a1 w1 hR1 hk
    | exit i=>exact ⟨_,st1,μ1,rfl,hk,hR1⟩
    | ret=>exact ⟨_,st1,μ1,rfl,hk,hR1⟩
  | cond c x y ihx ihy =>
    intro st K r μ a w hR h
    cases c with
    | tmp t =>
      unfold evTCode at h
      split at h
      case h_2=>cases h
      next b hb =>
      have hv:=hR.tmp t
      rw [hb] at hv
      have hv:a.tmps.getD t undef = .bool b:=hv
      have rb:∀ c,c=b→Rel E w0 μ (st.put (some t) (.at (.bool c))) a w:=fun c e=>hR.refine (by rw [hv,e];rfl)
      cases b with
      | true =>
        simp only [cond_true] at h
        exact wp_cond_true hv (ihx _ K r μ a w (rb _ rfl) h)
      | false =>
        simp only [cond_false] at h
        exact wp_cond_false hv (ihy _ K r μ a w (rb _ rfl) h)
    | const v=>unfold evTCode at h;cases h
    | global g=>unfold evTCode at h;cases h
    | func f=>unfold evTCode at h;cases h
  | block id x ih =>
    intro st K r μ a w hR h
    unfold evTCode at h
    refine wp_block (wp_mono (ih st _ r μ a w hR h) ?_)
    rintro e a1 w1 ⟨ex,st1,μ1,rfl,hk,hR1⟩
    cases ex with
    | normal=>exact ⟨.normal,st1,μ1,rfl,hk,hR1⟩
    | ret=>exact ⟨.ret,st1,μ1,rfl,hk,hR1⟩
    | exit i =>
      simp only [exOf,Exit.inBlock]
      by_cases hi:i=id
      · subst hi
        simp only [beq_self_eq_true,cond_true] at hk
        rw [if_pos rfl]
        exact ⟨.normal,st1,μ1,rfl,hk,hR1⟩
      · have:(i == id)=false:=by simpa using hi
        simp only [this,cond_false] at hk
        rw [if_neg hi]
        exact ⟨.exit i,st1,μ1,rfl,hk,hR1⟩
  | exit id =>
    intro st K r μ a w hR h
    exact wp_exit ⟨.exit id,st,μ,rfl,h,hR⟩
  | ret =>
    intro st K r μ a w hR h
    exact wp_ret ⟨.ret,st,μ,rfl,h,hR⟩
  | loop x _=>intro st K r μ a w hR h;unfold evTCode at h;cases h
  | rangeFunc f ps x y _ _=>intro st K r μ a w hR h;unfold evTCode at h;cases h
  | scope x _=>intro st K r μ a w hR h;unfold evTCode at h;cases h
  | label l=>intro st K r μ a w hR h;unfold evTCode at h;cases h
  | goto l=>intro st K r μ a w hR h;unfold evTCode at h;cases h
  | refuse=>intro st K r μ a w hR h;unfold evTCode at h;cases h
theorem Holds.oldsCells {w:World} {S:Nat→Prop} (hS:∀ k,S k→k<w.heap.size→E.O μ [] k):∀ {t:Ty} {x:t.den} {vs:List Value},Holds w S t x vs→RepAs E w μ [] (t.olds x) vs
  | .int k,n,vs,h=>by simp only [Holds] at h;subst h;exact ⟨rfl,trivial⟩
  | .bool,b,vs,h=>by simp only [Holds] at h;subst h;exact ⟨rfl,trivial⟩
  | .str,s,vs,h=>by simp only [Holds] at h;subst h;exact ⟨rfl,trivial⟩
  | .err,b,vs,h=>by simp only [Holds] at h;obtain ⟨v,rfl,h⟩:=h;exact ⟨h,trivial⟩
  | .adr,b,vs,h=>by simp only [Holds] at h;obtain ⟨v,rfl,h⟩:=h;exact ⟨h,trivial⟩
  | .slice e,l,vs,h=>by
    have h':=h
    simp only [Holds] at h'
    obtain ⟨a,cap,rfl,_⟩:=h'
    exact ⟨h.weaken hS,trivial⟩
  | .pair a b,x,vs,h=>by
    simp only [Holds] at h
    obtain ⟨us,ws,rfl,h1,h2⟩:=h
    exact All2.append (Holds.oldsCells hS h1) (Holds.oldsCells hS h2)
  | .struct b,x,vs,h=>by simp only [Holds] at h;exact Holds.oldsCells hS (t:=b) h
theorem oldArgs_sound {S:Nat→Prop} {G:World→Prop}:∀ (ts:List Ty) (x:denL ts) (vs:List Value),ArgsHold w S ts x vs→All2 (RepV (Env.of w.heap.size S G) w (fun _=>none) []) (oldArgs ts x) vs
  | [],_,[],_=>trivial
  | [],_,_ :: _,h=>h.elim
  | t :: ts,x,[],h=>h.elim
  | t :: ts,x,v :: vs,h=>by
    refine ⟨?_,oldArgs_sound ts x.2 vs h.2⟩
    have h1:=h.1
    have hS:∀ k,S k→k<w.heap.size→Env.O (Env.of w.heap.size S G) (fun _=>none) [] k:=fun k hk hlt=>⟨⟨by show ¬ w.heap.size≤k;omega,hk⟩,fun ⟨b,c,e,_⟩=>by cases e⟩
    unfold ValHolds at h1
    cases t with
    | struct b =>
      obtain ⟨us,e,hh⟩:=h1
      exact ⟨us,e,Holds.oldsCells hS (t:=.struct b) hh⟩
    | pair a b=>exact RepV.undef
    | int k=>have h1:[v]=[Value.int k x.1]:=h1;cases h1;exact rfl
    | bool=>have h1:[v]=[Value.bool x.1]:=h1;cases h1;exact rfl
    | str=>have h1:[v]=[Value.string x.1]:=h1;cases h1;exact rfl
    | err=>obtain ⟨u,e,h2⟩:=h1;cases e;exact h2
    | adr=>trivial
    | slice e=>exact Holds.weaken hS (t:=.slice e) h1
theorem evTFn_ok {G:World→Prop} (hcx:cx.good P G) (d:Nat) (hT:T.ok P) {f:FuncId} {fn:Func} (hf:cx.body f=some fn) (s:CSpec) (hs:∀ x r,s.sem x=some r→evTFn cx d T fn s.params s.res s.fresh x=some r):s.ok P G f:=by
  cases hc:fn.body with
  | none =>
    obtain ⟨p1,p2,p3⟩:=hcx.ok.body f fn hf
    rw [hc] at p3;cases p3
  | some c =>
    refine evFn_ok_gen oldArgs (fun w S ts x vs h=>oldArgs_sound ts x vs h) hcx hf s hc (fun e st'=>match e with
      | .exit _=>none
      | _=>endFn cx fn s.res s.fresh st') (fun ex st' r h=>?_) fun x r hsem E w a hG hR=>?_
    · cases ex with
      | exit i=>cases h
      | normal=>exact ⟨fun i e=>(by cases e),h⟩
      | ret=>exact ⟨fun i e=>(by cases e),h⟩
    · subst hG
      have h:=hs x r hsem
      unfold evTFn at h
      rw [hc] at h
      refine wp_mono (evTCode_sound hcx hT c _ _ r _ _ w hR h) ?_
      rintro e a' w' ⟨ex,st',μ',rfl,hk,hR'⟩
      refine ⟨ex,st',μ',rfl,?_,hR'⟩
      cases ex <;> exact hk
end
theorem tfn_ok {P:Program} {T:Tabs} (h:T.ok P) {G:World→Prop} (hG:Lasts G) {calls:List (Nat × CSpec)} (hc:callsOk P G calls) {ptrs:List (Nat × PSpec)} (hp:ptrsOk P G ptrs) {rows:List (Nat × RSpec)} (hr:rowsOk P G rows) (swap:Bool) (d:Nat) {L:TellFn} (hL:L.ok P) {f:FuncId} {fn:Func} (hf:look T.body f=some fn) (s:CSpec) (hs:evTFn (T.cxp calls ptrs rows swap) d L fn s.params s.res s.fresh=s.sem):s.ok P G f :=
  evTFn_ok (T.goodp h hG hc hp hr swap) d hL hf s fun x r hr=>by rw [hs];exact hr
end Go.Proofs.YtnohkcklakipoaaGreatDoor.Ev
