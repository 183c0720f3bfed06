/- Rows of trees that are written through by a call. -/
import Derived.Test.YtnohkcklakipoaaGreatDoorEv5
namespace Go.Proofs.YtnohkcklakipoaaGreatDoor.Ev
open Go Go.RowKit
set_option linter.unusedVariables false
set_option linter.unusedSimpArgs false
variable {ρ:Type}
theorem HoldsT.holds {w:World}:∀ {t:Ty} {x:t.den} {vs:List Value} {F:List Nat},HoldsT w t x vs F→Holds w (fun k=>k∈F) t x vs
  | .int _,_,_,_,h=>h.1
  | .bool,_,_,_,h=>h.1
  | .str,_,_,_,h=>h.1
  | .err,_,_,_,h=>h.1
  | .adr,_,_,_,h=>h.1
  | .slice e,l,vs,F,h=>by
    simp only [HoldsT] at h
    obtain ⟨v,rfl,h⟩:=h
    rcases h with ⟨rfl,rfl,rfl⟩ | ⟨k,cap,cells,ty,fz,Fs,rfl,h2,h3,h4,h5,rfl,h7,h8⟩
    · exact ⟨none,0,rfl,Nat.le_refl _,fun i hi=>absurd hi (Nat.not_lt_zero _)⟩
    · refine ⟨_,cap,rfl,h4,fun i hi=>⟨k,0,(cells.toList.drop (i*e.size)).take e.size,rfl,by simp,(HoldsT.holds (h8 i hi)).weaken fun q hq _=>List.mem_cons_of_mem _ (mem_flatten_getD hq),fun j c hj=>?_⟩⟩
      obtain ⟨hj,_⟩:=getElem?_part hj
      rw [cell_row h2,Nat.zero_add];exact hj
  | .pair a b,x,vs,F,h=>by
    simp only [HoldsT] at h
    obtain ⟨us,ws,F1,F2,rfl,rfl,h1,h2⟩:=h
    exact ⟨us,ws,rfl,(HoldsT.holds h1).weaken fun q hq _=>List.mem_append_left _ hq,(HoldsT.holds h2).weaken fun q hq _=>List.mem_append_right _ hq⟩
  | .struct b,x,vs,F,h=>HoldsT.holds (t:=b) h
structure Marked (F:List Nat) (w w':World):Prop where
  os:w'.os=w.os
  tape:w'.tape=w.tape
  output:w'.output=w.output
  size:w.heap.size≤w'.heap.size
  block:∀ k,k<w.heap.size→k ∉ F→w'.heap[k]? = w.heap[k]?
def A.isQuiet:A→Bool
  | .sl _ _ _=>false
  | .pp _ _ _ _=>false
  | _=>true
def A.quiet:A→A
  | .sl _ _ _=>.undef
  | .pp _ _ _ _=>.undef
  | x=>x
def V.quiet:V→V
  | .at x=>.at x.quiet
  | .agg cs=>.agg (cs.map A.quiet)
  | .tup vs=>.tup (vs.map fun p=>(p.1,p.2.map A.quiet))
def quietBl:List Blk→Nat→List Nat→Bool
  | [],_,_=>true
  | b :: r,i,bs=>(bs.contains i||match b with
    | .var cs=>cs.all A.isQuiet
    | .arr _ own nf t _=>own&&(nf||t.flat)
    | .dead=>true)&&quietBl r (i+1) bs
theorem quietBl_get:∀ {bl:List Blk} {i:Nat} {bs:List Nat},quietBl bl i bs=true→∀ (n:Nat) (b:Blk),bl[n]? = some b→i+n ∉ bs→(match b with
    | .var cs=>cs.all A.isQuiet
    | .arr _ own nf t _=>own&&(nf||t.flat)
    | .dead=>true)=true
  | [],i,bs,h,n,b,hn,_=>by simp at hn
  | c :: r,i,bs,h,n,b,hn,hi=>by
    unfold quietBl at h
    rw [Bool.and_eq_true] at h
    cases n with
    | zero =>
      simp only [List.getElem?_cons_zero,Option.some.injEq] at hn
      subst hn
      rw [Nat.add_zero] at hi
      have:bs.contains i=false:=by rw [List.contains_eq_mem];simpa using hi
      rw [this,Bool.false_or] at h
      exact h.1
    | succ n=>exact quietBl_get h.2 n b (by simpa using hn) (by rwa [show i+1+n=i+(n+1) by omega])
section
variable {E:Env} {w w':World} {μ μ':Lie} {bl bl':List Blk}
theorem EvoQ.rep (h:EvoQ μ bl μ' bl') (hold:∀ k,k<w.heap.size→¬ E.N k→w'.heap[k]? = w.heap[k]?) (hown:∀ k,Own μ' bl' k→E.N k):∀ {x:A} {v:Value},x.isQuiet=true→RepA E w μ bl x v→RepA E w' μ' bl' x v
  | .undef,_,_,hr=>hr
  | .int _ _,_,_,hr=>hr
  | .bool _,_,_,hr=>hr
  | .str _,_,_,hr=>hr
  | .err _,_,_,hr=>hr
  | .sl fr t l,v,hq,hr=>by cases hq
  | .pp fr t x off,v,hq,hr=>by cases hq
  | .os b g,v,_,hr=>by
    refine ⟨⟨hr.1.1,Nat.lt_of_lt_of_le hr.1.2 h.len⟩,fun g' own nf t l hb=>?_⟩
    obtain ⟨g0,own0,nf0,l0,hb0,hg,he⟩:=h.arr b g' own nf t l hr.1.2 hb
    obtain ⟨h1,h2⟩:=hr.2 _ _ _ _ _ hb0
    refine ⟨Nat.le_trans h1 hg,fun e=>?_⟩
    subst e
    obtain rfl:g=g0:=by omega
    obtain ⟨e1,e2⟩:=he rfl
    rw [e2,← e1];exact h2 rfl
  | .ptr b off,v,_,hr=>h.isPtr hr
  | .ep b g i off,v,_,hr=>by
    refine ⟨⟨hr.1.1,Nat.lt_of_lt_of_le hr.1.2 h.len⟩,fun g' own nf t l hb=>?_⟩
    obtain ⟨g0,own0,nf0,l0,hb0,hg,he⟩:=h.arr b g' own nf t l hr.1.2 hb
    obtain ⟨h1,h2⟩:=hr.2 _ _ _ _ _ hb0
    refine ⟨Nat.le_trans h1 hg,fun e=>?_⟩
    subst e
    obtain rfl:g=g0:=by omega
    obtain ⟨e1,e2⟩:=he rfl
    rw [e2,← e1];exact h2 rfl
  | .fn f caps,v,_,hr=>by
    obtain ⟨vs,hv,hc⟩:=hr
    exact ⟨vs,hv,hc.imp fun _ _ hp=>h.isPtr hp⟩
  | .nil t,_,_,hr=>hr
  | .old t l,v,_,hr=>Holds.mono (fun k hk hlt=>⟨⟨hk.1,fun ho=>hk.1.1 (hown k ho)⟩,hold k hlt hk.1.1⟩) (t:=.slice t) hr
theorem quiet_isQuiet:∀ x:A,x.quiet.isQuiet=true
  | .undef | .int _ _ | .bool _ | .str _ | .err _ | .sl _ _ _ | .pp _ _ _ _ | .os _ _ | .ptr _ _ | .ep _ _ _ _ | .fn _ _ | .nil _ | .old _ _=>rfl
theorem quiet_same:∀ {x:A},x.isQuiet=true→x.quiet=x
  | .undef,_ | .int _ _,_ | .bool _,_ | .str _,_ | .err _,_ | .os _ _,_ | .ptr _ _,_ | .ep _ _ _ _,_ | .fn _ _,_ | .nil _,_ | .old _ _,_=>rfl
  | .sl _ _ _,h=>by cases h
  | .pp _ _ _ _,h=>by cases h
theorem quiet_rep {x:A} {v:Value} (h:RepA E w μ bl x v):RepA E w μ bl x.quiet v:=by
  cases x <;> first | exact h | exact h.one
theorem EvoQ.quiet (h:EvoQ μ bl μ' bl') (hold:∀ k,k<w.heap.size→¬ E.N k→w'.heap[k]? = w.heap[k]?) (hown:∀ k,Own μ' bl' k→E.N k) {x:A} {v:Value} (hr:RepA E w μ bl x v):RepA E w' μ' bl' x.quiet v :=
  h.rep hold hown (quiet_isQuiet x) (quiet_rep hr)
theorem EvoQ.quiets (h:EvoQ μ bl μ' bl') (hold:∀ k,k<w.heap.size→¬ E.N k→w'.heap[k]? = w.heap[k]?) (hown:∀ k,Own μ' bl' k→E.N k):∀ {cs:List A} {vs:List Value},RepAs E w μ bl cs vs→RepAs E w' μ' bl' (cs.map A.quiet) vs
  | [],[],_=>trivial
  | [],_ :: _,hr=>hr.elim
  | _ :: _,[],hr=>hr.elim
  | c :: cs,v :: vs,hr=>⟨h.quiet hold hown hr.1,EvoQ.quiets h hold hown hr.2⟩
theorem EvoQ.quietV (h:EvoQ μ bl μ' bl') (hold:∀ k,k<w.heap.size→¬ E.N k→w'.heap[k]? = w.heap[k]?) (hown:∀ k,Own μ' bl' k→E.N k) {x:V} {v:Value} (hr:RepV E w μ bl x v):RepV E w' μ' bl' x.quiet v:=by
  cases x with
  | «at» c =>
    by_cases hc:c = .undef
    · subst hc;trivial
    · have:RepA E w μ bl c v:=by cases c <;> first | exact hr | exact absurd rfl hc
      exact RepV.at (h.quiet hold hown this)
  | agg cs=>obtain ⟨vs,e,hc⟩:=hr;exact ⟨vs,e,h.quiets hold hown hc⟩
  | tup xs =>
    obtain ⟨vs,e,hc⟩:=hr
    refine ⟨vs,e,?_⟩
    have:∀ (ps:List (Bool × List A)) (us:List Value),All2 (fun (x:Bool × List A) u=>match x.1 with
        | true=>∃ us:List Value,u = .agg us.toArray∧RepAs E w μ bl x.2 us
        | false=>RepAs E w μ bl x.2 [u]) ps us→All2 (fun (x:Bool × List A) u=>match x.1 with
        | true=>∃ us:List Value,u = .agg us.toArray∧RepAs E w' μ' bl' x.2 us
        | false=>RepAs E w' μ' bl' x.2 [u]) (ps.map fun p=>(p.1,p.2.map A.quiet)) us:=by
      intro ps
      induction ps with
      | nil=>intro us hr;cases us with | nil=>trivial | cons _ _=>exact hr.elim
      | cons p ps ih=>intro us hr;cases us with
        | nil=>exact hr.elim
        | cons u us =>
          refine ⟨?_,ih us hr.2⟩
          have h1:=hr.1
          obtain ⟨ag,cs⟩:=p
          cases ag with
          | true=>obtain ⟨qs,e,hq⟩:=h1;exact ⟨qs,e,h.quiets hold hown hq⟩
          | false=>exact h.quiets hold hown h1
    exact this xs vs hc
end
structure Change (E:Env) (w:World) (μ:Lie) (bl:List Blk) (τ:Nat→List Nat) (w':World) (bl':List Blk) (bs:List Nat) (F:List Nat) (τ':Nat→List Nat):Prop where
  marked:Marked F w w'
  from_:∀ k∈F,∃ b∈bs,Tree bl b∧k∈Fof μ τ b
  len:bl'.length=bl.length
  others:∀ b,b ∉ bs→bl'[b]? = bl[b]?
  rows:∀ b∈bs,∃ (g:Nat) (t:Ty) (l l':List t.den),bl[b]? = some (.arr g true true t l)∧bl'[b]? = some (.arr g true true t l')∧l'.length=l.length∧NestT w' t l' (μ b) (τ' b) ∧
    ∀ k cap,μ b=some (k,cap)→∃ cells ty fz,w'.heap[k]? = some (.cells cells ty fz)∧unfrozen cells fz∧l'.length≤cap∧cells.size=cap*t.size
  new:∀ b∈bs,∀ k∈τ' b,E.N k∧k<w'.heap.size∧¬ Own μ bl k
  nodup:∀ b∈bs,(τ' b).Nodup
  apart:∀ b∈bs,∀ b'∈bs,b≠b'→∀ k∈τ' b,k ∉ τ' b'
  apart':∀ b∈bs,∀ c,c ∉ bs→Tree bl c→∀ k∈τ' b,k ∉ τ c
theorem NestT.holds {w:World} {t:Ty} {l:List t.den} {m:Option (Nat × Nat)} {F:List Nat} (h:NestT w t l m F) {k cap:Nat} (hm:m=some (k,cap)) {cells:Array Value} {ty:TypeId} {fz:Nat × Nat} (hk:w.heap[k]? = some (.cells cells ty fz)) :
    Elems w (fun j=>j∈F) t l cells.toList:=by
  rcases h with ⟨rfl,_⟩ | ⟨k',cap',cells',ty',fz',Fs,h1,h2,rfl,h4,h5⟩
  · intro i hi;exact absurd hi (Nat.not_lt_zero _)
  · rw [hm] at h1
    cases h1
    rw [hk] at h2
    cases h2
    exact fun i hi=>(h5 i hi).holds.weaken fun q hq _=>mem_flatten_getD hq
section
variable {E:Env} {w0 w w':World} {μ:Lie} {bl bl':List Blk} {τ τ':Nat→List Nat} {bs F:List Nat}
theorem Change.mine (h:Change E w μ bl τ w' bl' bs F τ') {b:Nat}:mine bl' b↔mine bl b:=by
  by_cases hb:b∈bs
  · obtain ⟨g,t,l,l',h1,h2,_⟩:=h.rows b hb
    unfold Ev.mine;rw [h1,h2]
  · unfold Ev.mine;rw [h.others b hb]
theorem Change.own (h:Change E w μ bl τ w' bl' bs F τ') {k:Nat}:Own μ bl' k↔Own μ bl k:=by
  constructor <;> rintro ⟨b,c,h1,h2⟩
  · exact ⟨b,c,h1,h.mine.mp h2⟩
  · exact ⟨b,c,h1,h.mine.mpr h2⟩
theorem Change.evoQ (h:Change E w μ bl τ w' bl' bs F τ'):EvoQ μ bl μ bl':=by
  refine ⟨Nat.le_of_eq h.len.symm,fun b cs hlt hb=>?_,fun b g own nf t l hlt hb=>?_⟩
  · by_cases hbs:b∈bs
    · obtain ⟨g,t,l,l',h1,h2,_⟩:=h.rows b hbs
      rw [h2] at hb;cases hb
    · rw [h.others b hbs] at hb;exact ⟨⟨cs,hb⟩,rfl⟩
  · by_cases hbs:b∈bs
    · obtain ⟨g',t',l1,l',h1,h2,h3,_⟩:=h.rows b hbs
      rw [h2] at hb;cases hb
      exact ⟨_,true,true,l1,h1,Nat.le_refl _,fun _=>⟨h3.symm,rfl⟩⟩
    · rw [h.others b hbs] at hb;exact ⟨g,own,nf,l,hb,Nat.le_refl _,fun _=>⟨rfl,rfl⟩⟩
theorem Mem.ownN (hm:Mem E w0 w μ bl) {k:Nat} (ho:Own μ bl k):E.N k:=by
  obtain ⟨b,c,h1,h2⟩:=ho
  unfold Ev.mine at h2
  split at h2
  · next cs hb =>
    obtain ⟨k',c',vals,ty,fz,q1,q2,_⟩:=hm.blocks b _ hb
    rw [h1] at q1;cases q1;exact q2
  · next g own nf t l hb =>
    rcases hm.blocks b _ hb with ⟨q1,_⟩ | ⟨k',cap,vals,ty,fz,q1,q2,_⟩
    · rw [h1] at q1;cases q1
    · rw [h1] at q1;cases q1;exact q2
  · exact h2.elim
theorem Change.N (h:Change E w μ bl τ w' bl' bs F τ') (hm:Mem E w0 w μ bl) (ht:TreeOk E w μ bl τ) {k:Nat} (hk:k∈F):E.N k∧k<w.heap.size:=by
  obtain ⟨b,hb,hT,hk⟩:=h.from_ k hk
  have:=Fof_mem hm ht hT hk
  exact ⟨this.1,this.2.1⟩
theorem Change.keep (h:Change E w μ bl τ w' bl' bs F τ') (hm:Mem E w0 w μ bl) (ht:TreeOk E w μ bl τ) {b k c:Nat} (hb:b ∉ bs) (hmb:Ev.mine bl b) (hk:μ b=some (k,c)):w'.heap[k]? = w.heap[k]?:=by
  refine h.marked.block k (hm.lt (mine_alive hmb) hk) fun hF=>?_
  obtain ⟨b2,hb2,hT,hk2⟩:=h.from_ k hF
  rcases (Fof_mem hm ht hT hk2).2.2 with ⟨c2,q⟩ | q
  · have:=hm.apart b b2 k c c2 hk q (mine_alive hmb) (mine_alive (tree_mine hT))
    subst this
    exact hb hb2
  · exact (ht.new b2 hT k q).2.2 ⟨b,c,hk,hmb⟩
theorem Change.tree (h:Change E w μ bl τ w' bl' bs F τ') (hm:Mem E w0 w μ bl) (ht:TreeOk E w μ bl τ) {c:Nat} (hc:c ∉ bs) (hT:Tree bl c):∀ k∈τ c,w'.heap[k]? = w.heap[k]?:=by
  intro k hk
  obtain ⟨h1,h2,h3⟩:=ht.new c hT k hk
  refine h.marked.block k h2 fun hF=>?_
  obtain ⟨b2,hb2,hT2,hk2⟩:=h.from_ k hF
  rcases (Fof_mem hm ht hT2 hk2).2.2 with ⟨c2,q⟩ | q
  · exact h3 ⟨b2,c2,q,tree_mine hT2⟩
  · exact ht.apart b2 c hT2 hT (fun e=>hc (e ▸ hb2)) k q hk
theorem Change.sound (h:Change E w μ bl τ w' bl' bs F τ') (hm:Mem E w0 w μ bl) (ht:TreeOk E w μ bl τ) (hq:quietBl bl 0 bs=true) :
    Mem E w0 w' μ bl'∧TreeOk E w' μ bl' (fun b=>if b∈bs then τ' b else τ b):=by
  have hap:E.Apart w w':=⟨h.marked.os,h.marked.tape,h.marked.output,h.marked.size,fun k hk hn=>h.marked.block k hk fun hF=>hn (h.N hm ht hF).1⟩
  have hold:∀ k,k<w.heap.size→¬ E.N k→w'.heap[k]? = w.heap[k]?:=fun k hk hn=>h.marked.block k hk fun hF=>hn (h.N hm ht hF).1
  have hownN:∀ k,Own μ bl' k→E.N k:=fun k hk=>hm.ownN (h.own.mp hk)
  have htree:∀ b,Tree bl' b→Tree bl b:=by
    intro b ⟨g,t,l,q⟩
    by_cases hb:b∈bs
    · obtain ⟨g',t',l1,l',h1,_⟩:=h.rows b hb
      exact ⟨g',t',l1,h1⟩
    · rw [h.others b hb] at q;exact ⟨g,t,l,q⟩
  have halive:∀ b,alive bl' b→alive bl b:=by
    intro b ha
    by_cases hb:b∈bs
    · obtain ⟨g',t',l1,l',h1,_⟩:=h.rows b hb
      unfold alive;rw [h1];trivial
    · unfold alive at ha ⊢;rwa [h.others b hb] at ha
  refine ⟨⟨hm.start,hm.below.trans hap,Nat.le_trans hm.big h.marked.size,fun b blk hbl=>?_,fun b b' k c c' h1 h2 a1 a2=>hm.apart b b' k c c' h1 h2 (halive b a1) (halive b' a2)⟩,?_⟩
  · by_cases hb:b∈bs
    · obtain ⟨g,t,l,l',h1,h2,h3,h4,h5⟩:=h.rows b hb
      rw [h2] at hbl
      cases hbl
      rcases hm.blocks b _ h1 with ⟨q1,q2⟩ | ⟨k,cap,vals,ty,fz,q1,q2,q3,q4,q5,q6,q7⟩
      · refine Or.inl ⟨q1,?_⟩
        rw [q2] at h3
        exact List.eq_nil_of_length_eq_zero h3
      · obtain ⟨cells,ty',fz',p1,p2,p3,p4⟩:=h5 k cap q1
        refine Or.inr ⟨k,cap,cells,ty',fz',q1,q2,p1,p2,p3,p4,fun i hi=>(h4.holds q1 p1 i hi).weaken fun j hj _=>?_⟩
        obtain ⟨n1,n2,n3⟩:=h.new b hb j hj
        exact ⟨Or.inl n1,fun ho=>n3 (h.own.mp ho)⟩
    · rw [h.others b hb] at hbl
      have hqb:=quietBl_get hq b blk hbl (by rwa [Nat.zero_add])
      cases blk with
      | dead=>trivial
      | var cs =>
        obtain ⟨k,c,vals,ty,fz,q1,q2,q3,q4,q5⟩:=hm.blocks b _ hbl
        have hmb:Ev.mine bl b:=by unfold Ev.mine;rw [hbl];trivial
        refine ⟨k,c,vals,ty,fz,q1,q2,by rw [h.keep hm ht hb hmb q1];exact q3,q4,?_⟩
        have hall:∀ x∈cs,x.isQuiet=true:=List.all_eq_true.mp hqb
        have:cs.map A.quiet=cs:=by
          exact (List.map_congr_left (g:=id) fun x hx=>quiet_same (hall x hx)).trans (List.map_id _)
        rw [← this]
        exact h.evoQ.quiets hold hownN q5
      | arr g own nf t l =>
        simp only [Bool.and_eq_true,Bool.or_eq_true] at hqb
        obtain ⟨rfl,hqb⟩:=hqb
        have hmb:Ev.mine bl b:=by unfold Ev.mine;rw [hbl]
        rcases hm.blocks b _ hbl with q | ⟨k,cap,vals,ty,fz,q1,q2,q3,q4,q5,q6,q7⟩
        · exact Or.inl q
        · have hk:=h.keep hm ht hb hmb q1
          refine Or.inr ⟨k,cap,vals,ty,fz,q1,q2,by rw [hk];exact q3,q4,q5,q6,fun i hi=>?_⟩
          rcases hqb with rfl | hfl
          · have hT:Tree bl b:=⟨g,t,l,hbl⟩
            have hn:=(ht.nest b g t l hbl).mono (w':=w') (h.tree hm ht hb hT) fun k' c' hk'=>h.keep hm ht hb hmb hk'
            refine (hn.holds q1 (by rw [hk];exact q3) i hi).weaken fun j hj _=>?_
            obtain ⟨n1,n2,n3⟩:=ht.new b hT j hj
            exact ⟨Or.inl n1,fun ho=>n3 (h.own.mp ho)⟩
          · have h1:=(q7 i hi).tree hfl
            have h2:HoldsT w' t l[i] ((vals.toList.drop (i*t.size)).take t.size) []:=h1.mono fun _ hk=>by cases hk
            exact h2.holds.flat hfl
  · refine ⟨fun b g t l hbl=>?_,fun b hT k hk=>?_,fun b hT=>?_,fun b b' hT hT' hne k hk hk'=>?_⟩
    · by_cases hb:b∈bs
      · rw [if_pos hb]
        obtain ⟨g',t',l1,l',h1,h2,h3,h4,h5⟩:=h.rows b hb
        rw [h2] at hbl
        cases hbl
        exact h4
      · rw [if_neg hb]
        rw [h.others b hb] at hbl
        have hT:Tree bl b:=⟨g,t,l,hbl⟩
        exact (ht.nest b g t l hbl).mono (h.tree hm ht hb hT) fun k c hk=>h.keep hm ht hb (tree_mine hT) hk
    · by_cases hb:b∈bs
      · rw [if_pos hb] at hk
        obtain ⟨n1,n2,n3⟩:=h.new b hb k hk
        exact ⟨n1,n2,fun ho=>n3 (h.own.mp ho)⟩
      · rw [if_neg hb] at hk
        obtain ⟨n1,n2,n3⟩:=ht.new b (htree b hT) k hk
        exact ⟨n1,Nat.lt_of_lt_of_le n2 h.marked.size,fun ho=>n3 (h.own.mp ho)⟩
    · by_cases hb:b∈bs
      · rw [if_pos hb];exact h.nodup b hb
      · rw [if_neg hb];exact ht.nodup b (htree b hT)
    · by_cases hb:b∈bs
      · rw [if_pos hb] at hk
        by_cases hb':b'∈bs
        · rw [if_pos hb'] at hk'
          exact h.apart b hb b' hb' hne k hk hk'
        · rw [if_neg hb'] at hk'
          exact h.apart' b hb b' hb' (htree b' hT') k hk hk'
      · rw [if_neg hb] at hk
        by_cases hb':b'∈bs
        · rw [if_pos hb'] at hk'
          exact h.apart' b' hb' b hb (htree b hT) k hk' hk
        · rw [if_neg hb'] at hk'
          exact ht.apart b b' (htree b hT) (htree b' hT') hne k hk hk'
theorem Change.rel {st:St} {a:Act} (h:Change E w μ st.bl τ w' bl' bs F τ') (hR:Rel E w0 μ st a w) (ht:TreeOk E w μ st.bl τ) (hq:quietBl st.bl 0 bs=true) :
    Rel E w0 μ { st with tmps:=st.tmps.map V.quiet,bl:=bl' } a w':=by
  obtain ⟨h1,h2⟩:=h.sound hR.mem ht hq
  refine ⟨h1,?_,hR.defers,⟨_,h2⟩⟩
  have hold:∀ k,k<w.heap.size→¬ E.N k→w'.heap[k]? = w.heap[k]?:=fun k hk hn=>h.marked.block k hk fun hF=>hn (h.N hR.mem ht hF).1
  have hownN:∀ k,Own μ bl' k→E.N k:=fun k hk=>hR.mem.ownN (h.own.mp hk)
  have:∀ (xs:List V) (vs:List Value),All2 (RepV E w μ st.bl) xs vs→All2 (RepV E w' μ bl') (xs.map V.quiet) vs:=by
    intro xs
    induction xs with
    | nil=>intro vs hr;cases vs with | nil=>trivial | cons _ _=>exact hr.elim
    | cons x xs ih=>intro vs hr;cases vs with
      | nil=>exact hr.elim
      | cons v vs=>exact ⟨h.evoQ.quietV hold hownN hr.1,ih vs hr.2⟩
  exact this _ _ hR.slots
end
end Go.Proofs.YtnohkcklakipoaaGreatDoor.Ev
namespace Go.Proofs.YtnohkcklakipoaaGreatDoor.Ev
open Go Go.RowKit
set_option linter.unusedVariables false
set_option linter.unusedSimpArgs false
variable {ρ:Type}
def HoldsTV (w:World) (t:Ty) (x:t.den) (v:Value) (F:List Nat):Prop :=
  match t.isAgg with
  | true=>∃ vs:List Value,v = .agg vs.toArray∧HoldsT w t x vs F
  | false=>HoldsT w t x [v] F
structure MSpec where
  t:Ty
  sem:t.den→Int→Option (t.den × Int)
structure MSpec.ok (P:Program) (f:FuncId) (m:MSpec):Prop where
  fn:∃ fn,P.funcs[f]? = some fn∧fn.name ≠ "runtime.NumGoroutine" ∧ fn.body.isSome=true
  calls:∀ (w:World) (v:Value) (x:m.t.den) (F:List Nat) (k:Int) (x':m.t.den) (k':Int),HoldsTV w m.t x v F→F.Nodup→(∀ j∈F,j<w.heap.size)→m.sem x k=some (x',k') →
    Calls P f #[v,.int .i64 k] w fun e w'=>match e with
      | .returned u=>u = .int .i64 k'∧Marked F w w'∧∃ F',HoldsTV w' m.t x' v F'∧F'.Nodup∧∀ j∈F',(j∈F∨w.heap.size≤j)∧j<w'.heap.size
      | _=>False
section
variable {P:Program} {cx:Cx} {E:Env} {w0 w:World} {μ:Lie} {bl:List Blk} {st:St} {a:Act} {o:Oper}
theorem HoldsTV.cells {w:World} {t:Ty} {x:t.den} {v:Value} {F:List Nat} (h:HoldsTV w t x v F):HoldsT w t x v.cells.toList F:=by
  unfold HoldsTV at h
  cases ha:t.isAgg with
  | true=>rw [ha] at h;obtain ⟨vs,rfl,h⟩:=h;exact h
  | false =>
    rw [ha] at h
    have h:HoldsT w t x [v] F:=h
    have:v.cells.toList=[v]:=by
      cases t with
      | int k=>obtain ⟨e,_⟩:=h;cases e;rfl
      | bool=>obtain ⟨e,_⟩:=h;cases e;rfl
      | str=>obtain ⟨e,_⟩:=h;cases e;rfl
      | adr =>
        obtain ⟨⟨u,e,hb⟩,_⟩:=h
        cases e
        cases v <;> first | rfl | simp [Value.oneCell'] at hb
      | err =>
        obtain ⟨⟨u,e,hb⟩,_⟩:=h
        cases e
        split at hb
        · obtain ⟨_,_,rfl⟩:=hb;rfl
        · subst hb;rfl
      | slice e =>
        simp only [HoldsT] at h
        obtain ⟨u,e,h⟩:=h
        cases e
        rcases h with ⟨_,_,rfl⟩ | ⟨_,_,_,_,_,_,rfl,_⟩ <;> rfl
      | pair a b =>
        have:=h.holds.length
        have h1:=a.size_pos
        have h2:=b.size_pos
        simp only [List.length_singleton,Ty.size] at this
        omega
      | struct b=>cases ha
    rw [this];exact h
end
end Go.Proofs.YtnohkcklakipoaaGreatDoor.Ev
namespace Go.Proofs.YtnohkcklakipoaaGreatDoor.Ev
open Go Go.RowKit
set_option linter.unusedVariables false
set_option linter.unusedSimpArgs false
theorem flatten_at {α:Type}:∀ (L:List (List α)) (i:Nat),i<L.length→L.flatten=(L.take i).flatten++(L.getD i []++(L.drop (i+1)).flatten)
  | [],i,h=>absurd h (Nat.not_lt_zero _)
  | x :: L,0,h=>by simp
  | x :: L,i+1,h=>by
    have:=flatten_at L i (by simpa using h)
    rw [List.flatten_cons,this,List.take_succ_cons,List.flatten_cons,List.getD_cons_succ,List.drop_succ_cons,List.append_assoc]
theorem flatten_set {α:Type}:∀ (L:List (List α)) (i:Nat) (X:List α),i<L.length→(L.set i X).flatten=(L.take i).flatten++(X++(L.drop (i+1)).flatten)
  | [],i,X,h=>absurd h (Nat.not_lt_zero _)
  | x :: L,0,X,h=>by simp
  | x :: L,i+1,X,h=>by
    have:=flatten_set L i X (by simpa using h)
    rw [List.set_cons_succ,List.flatten_cons,this,List.take_succ_cons,List.flatten_cons,List.drop_succ_cons,List.append_assoc]
theorem nodup_swap {A B C G:List Nat} {n:Nat} (h:(A++(B++C)).Nodup) (hlt:∀ k∈A++(B++C),k<n) (hG:G.Nodup) (hd:∀ k∈G,k∈B∨n≤k):(A++(G++C)).Nodup:=by
  refine nodup_replace h hG fun k hk=>?_
  rw [List.nodup_append] at h
  obtain ⟨h1,h2,h3⟩:=h
  rw [List.nodup_append] at h2
  rcases hd k hk with q | q
  · exact ⟨fun hA=>h3 k hA k (List.mem_append_left _ q) rfl,fun hC=>h2.2.2 k q k hC rfl⟩
  · refine ⟨fun hA=>?_,fun hC=>?_⟩
    · have:=hlt k (List.mem_append_left _ hA);omega
    · have:=hlt k (List.mem_append_right _ (List.mem_append_right _ hC));omega
theorem CellT.mono {w w':World} {c:A} {v:Value} {F:List Nat} (hF:∀ k∈F,w'.heap[k]? = w.heap[k]?) (h:CellT w c v F):CellT w' c v F:=by
  cases c <;> first | exact HoldsT.mono hF h | exact h
theorem getD_set_ne {α:Type} {L:List α} {i j:Nat} {X d:α} (h:j≠i):(L.set i X).getD j d=L.getD j d:=by
  rw [List.getD_eq_getElem?_getD,List.getElem?_set_ne (by omega),← List.getD_eq_getElem?_getD]
theorem getD_set_eq {α:Type} {L:List α} {i:Nat} {X d:α} (h:i<L.length):(L.set i X).getD i d=X:=by
  rw [List.getD_eq_getElem?_getD,List.getElem?_set];simp [h]
section
variable {E:Env} {w0 w:World} {μ:Lie} {bl:List Blk} {τ:Nat→List Nat}
end
end Go.Proofs.YtnohkcklakipoaaGreatDoor.Ev
