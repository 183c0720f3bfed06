/- Rows of trees that are written through by a call. -/
import Derived.Test.YtigbabjhcihmaaaGreatDoorEv5
namespace Go.Proofs.YtigbabjhcihmaaaGreatDoor.Ev
open Go Go.RowKit
set_option linter.unusedVariables false
set_option linter.unusedSimpArgs false
variable {ρ:Type}
theorem HoldsT.holds {w:World}:∀ {t:Ty} {x:t.den} {vs:List Value} {F:List Nat},HoldsT w t x vs F→Holds w (fun k=>k∈F) t x vs
  | .int _,_,_,_,h=>h.1
  | .bool,_,_,_,h=>h.1
  | .str,_,_,_,h=>h.1
  | .err,_,_,_,h=>h.1
  | .adr,_,_,_,h=>h.1
  | .slice e,l,vs,F,h=>by
    simp only [HoldsT] at h
    obtain ⟨v,rfl,h⟩:=h
    rcases h with ⟨rfl,rfl,rfl⟩ | ⟨k,cap,cells,ty,fz,Fs,rfl,h2,h3,h4,h5,rfl,h7,h8⟩
    · exact ⟨none,0,rfl,Nat.le_refl _,fun i hi=>absurd hi (Nat.not_lt_zero _)⟩
    · refine ⟨_,cap,rfl,h4,fun i hi=>⟨k,0,(cells.toList.drop (i*e.size)).take e.size,rfl,by simp,(HoldsT.holds (h8 i hi)).weaken fun q hq _=>List.mem_cons_of_mem _ (mem_flatten_getD hq),fun j c hj=>?_⟩⟩
      obtain ⟨hj,_⟩:=getElem?_part hj
      rw [cell_row h2,Nat.zero_add];exact hj
  | .pair a b,x,vs,F,h=>by
    simp only [HoldsT] at h
    obtain ⟨us,ws,F1,F2,rfl,rfl,h1,h2⟩:=h
    exact ⟨us,ws,rfl,(HoldsT.holds h1).weaken fun q hq _=>List.mem_append_left _ hq,(HoldsT.holds h2).weaken fun q hq _=>List.mem_append_right _ hq⟩
  | .struct b,x,vs,F,h=>HoldsT.holds (t:=b) h
structure Marked (F:List Nat) (w w':World):Prop where
  os:w'.os=w.os
  tape:w'.tape=w.tape
  output:w'.output=w.output
  size:w.heap.size≤w'.heap.size
  block:∀ k,k<w.heap.size→k ∉ F→w'.heap[k]? = w.heap[k]?
def A.isQuiet:A→Bool
  | .sl _ _ _=>false
  | .pp _ _ _ _=>false
  | _=>true
def A.quiet:A→A
  | .sl _ _ _=>.undef
  | .pp _ _ _ _=>.undef
  | x=>x
def V.quiet:V→V
  | .at x=>.at x.quiet
  | .agg cs=>.agg (cs.map A.quiet)
  | .tup vs=>.tup (vs.map fun p=>(p.1,p.2.map A.quiet))
def quietBl:List Blk→Nat→List Nat→Bool
  | [],_,_=>true
  | b :: r,i,bs=>(bs.contains i||match b with
    | .var cs=>cs.all A.isQuiet
    | .arr _ own nf t _=>own&&(nf||t.flat)
    | .dead=>true)&&quietBl r (i+1) bs
theorem quietBl_get:∀ {bl:List Blk} {i:Nat} {bs:List Nat},quietBl bl i bs=true→∀ (n:Nat) (b:Blk),bl[n]? = some b→i+n ∉ bs→(match b with
    | .var cs=>cs.all A.isQuiet
    | .arr _ own nf t _=>own&&(nf||t.flat)
    | .dead=>true)=true
  | [],i,bs,h,n,b,hn,_=>by simp at hn
  | c :: r,i,bs,h,n,b,hn,hi=>by
    unfold quietBl at h
    rw [Bool.and_eq_true] at h
    cases n with
    | zero =>
      simp only [List.getElem?_cons_zero,Option.some.injEq] at hn
      subst hn
      rw [Nat.add_zero] at hi
      have:bs.contains i=false:=by rw [List.contains_eq_mem];simpa using hi
      rw [this,Bool.false_or] at h
      exact h.1
    | succ n=>exact quietBl_get h.2 n b (by simpa using hn) (by rwa [show i+1+n=i+(n+1) by omega])
section
variable {E:Env} {w w':World} {μ μ':Lie} {bl bl':List Blk}
theorem EvoQ.rep (h:EvoQ μ bl μ' bl') (hold:∀ k,k<w.heap.size→¬ E.N k→w'.heap[k]? = w.heap[k]?) (hown:∀ k,Own μ' bl' k→E.N k):∀ {x:A} {v:Value},x.isQuiet=true→RepA E w μ bl x v→RepA E w' μ' bl' x v
  | .undef,_,_,hr=>hr
  | .int _ _,_,_,hr=>hr
  | .bool _,_,_,hr=>hr
  | .str _,_,_,hr=>hr
  | .err _,_,_,hr=>hr
  | .sl fr t l,v,hq,hr=>by cases hq
  | .pp fr t x off,v,hq,hr=>by cases hq
  | .os b g,v,_,hr=>by
    refine ⟨⟨hr.1.1,Nat.lt_of_lt_of_le hr.1.2 h.len⟩,fun g' own nf t l hb=>?_⟩
    obtain ⟨g0,own0,nf0,l0,hb0,hg,he⟩:=h.arr b g' own nf t l hr.1.2 hb
    obtain ⟨h1,h2⟩:=hr.2 _ _ _ _ _ hb0
    refine ⟨Nat.le_trans h1 hg,fun e=>?_⟩
    subst e
    obtain rfl:g=g0:=by omega
    obtain ⟨e1,e2⟩:=he rfl
    rw [e2,← e1];exact h2 rfl
  | .ptr b off,v,_,hr=>h.isPtr hr
  | .ep b g i off,v,_,hr=>by
    refine ⟨⟨hr.1.1,Nat.lt_of_lt_of_le hr.1.2 h.len⟩,fun g' own nf t l hb=>?_⟩
    obtain ⟨g0,own0,nf0,l0,hb0,hg,he⟩:=h.arr b g' own nf t l hr.1.2 hb
    obtain ⟨h1,h2⟩:=hr.2 _ _ _ _ _ hb0
    refine ⟨Nat.le_trans h1 hg,fun e=>?_⟩
    subst e
    obtain rfl:g=g0:=by omega
    obtain ⟨e1,e2⟩:=he rfl
    rw [e2,← e1];exact h2 rfl
  | .fn f caps,v,_,hr=>by
    obtain ⟨vs,hv,hc⟩:=hr
    exact ⟨vs,hv,hc.imp fun _ _ hp=>h.isPtr hp⟩
  | .nil t,_,_,hr=>hr
  | .old t l,v,_,hr=>Holds.mono (fun k hk hlt=>⟨⟨hk.1,fun ho=>hk.1.1 (hown k ho)⟩,hold k hlt hk.1.1⟩) (t:=.slice t) hr
theorem quiet_isQuiet:∀ x:A,x.quiet.isQuiet=true
  | .undef | .int _ _ | .bool _ | .str _ | .err _ | .sl _ _ _ | .pp _ _ _ _ | .os _ _ | .ptr _ _ | .ep _ _ _ _ | .fn _ _ | .nil _ | .old _ _=>rfl
theorem quiet_same:∀ {x:A},x.isQuiet=true→x.quiet=x
  | .undef,_ | .int _ _,_ | .bool _,_ | .str _,_ | .err _,_ | .os _ _,_ | .ptr _ _,_ | .ep _ _ _ _,_ | .fn _ _,_ | .nil _,_ | .old _ _,_=>rfl
  | .sl _ _ _,h=>by cases h
  | .pp _ _ _ _,h=>by cases h
theorem quiet_rep {x:A} {v:Value} (h:RepA E w μ bl x v):RepA E w μ bl x.quiet v:=by
  cases x <;> first | exact h | exact h.one
theorem EvoQ.quiet (h:EvoQ μ bl μ' bl') (hold:∀ k,k<w.heap.size→¬ E.N k→w'.heap[k]? = w.heap[k]?) (hown:∀ k,Own μ' bl' k→E.N k) {x:A} {v:Value} (hr:RepA E w μ bl x v):RepA E w' μ' bl' x.quiet v :=
  h.rep hold hown (quiet_isQuiet x) (quiet_rep hr)
theorem EvoQ.quiets (h:EvoQ μ bl μ' bl') (hold:∀ k,k<w.heap.size→¬ E.N k→w'.heap[k]? = w.heap[k]?) (hown:∀ k,Own μ' bl' k→E.N k):∀ {cs:List A} {vs:List Value},RepAs E w μ bl cs vs→RepAs E w' μ' bl' (cs.map A.quiet) vs
  | [],[],_=>trivial
  | [],_ :: _,hr=>hr.elim
  | _ :: _,[],hr=>hr.elim
  | c :: cs,v :: vs,hr=>⟨h.quiet hold hown hr.1,EvoQ.quiets h hold hown hr.2⟩
theorem EvoQ.quietV (h:EvoQ μ bl μ' bl') (hold:∀ k,k<w.heap.size→¬ E.N k→w'.heap[k]? = w.heap[k]?) (hown:∀ k,Own μ' bl' k→E.N k) {x:V} {v:Value} (hr:RepV E w μ bl x v):RepV E w' μ' bl' x.quiet v:=by
  cases x with
  | «at» c =>
    by_cases hc:c = .undef
    · subst hc;trivial
    · have:RepA E w μ bl c v:=by cases c <;> first | exact hr | exact absurd rfl hc
      exact RepV.at (h.quiet hold hown this)
  | agg cs=>obtain ⟨vs,e,hc⟩:=hr;exact ⟨vs,e,h.quiets hold hown hc⟩
  | tup xs =>
    obtain ⟨vs,e,hc⟩:=hr
    refine ⟨vs,e,?_⟩
    have:∀ (ps:List (Bool × List A)) (us:List Value),All2 (fun (x:Bool × List A) u=>match x.1 with
        | true=>∃ us:List Value,u = .agg us.toArray∧RepAs E w μ bl x.2 us
        | false=>RepAs E w μ bl x.2 [u]) ps us→All2 (fun (x:Bool × List A) u=>match x.1 with
        | true=>∃ us:List Value,u = .agg us.toArray∧RepAs E w' μ' bl' x.2 us
        | false=>RepAs E w' μ' bl' x.2 [u]) (ps.map fun p=>(p.1,p.2.map A.quiet)) us:=by
      intro ps
      induction ps with
      | nil=>intro us hr;cases us with | nil=>trivial | cons _ _=>exact hr.elim
      | cons p ps ih=>intro us hr;cases us with
        | nil=>exact hr.elim
        | cons u us =>
          refine ⟨?_,ih us hr.2⟩
          have h1:=hr.1
          obtain ⟨ag,cs⟩:=p
          cases ag with
          | true=>obtain ⟨qs,e,hq⟩:=h1;exact ⟨qs,e,h.quiets hold hown hq⟩
          | false=>exact h.quiets hold hown h1
    exact this xs vs hc
end
structure Change (E:Env) (w:World) (μ:Lie) (bl:List Blk) (τ:Nat→List Nat) (w':World) (bl':List Blk) (bs:List Nat) (F:List Nat) (τ':Nat→List Nat):Prop where
  marked:Marked F w w'
  from_:∀ k∈F,∃ b∈bs,Tree bl b∧k∈Fof μ τ b
  len:bl'.length=bl.length
  others:∀ b,b ∉ bs→bl'[b]? = bl[b]?
  rows:∀ b∈bs,∃ (g:Nat) (t:Ty) (l l':List t.den),bl[b]? = some (.arr g true true t l)∧bl'[b]? = some (.arr g true true t l')∧l'.length=l.length∧NestT w' t l' (μ b) (τ' b) ∧
    ∀ k cap,μ b=some (k,cap)→∃ cells ty fz,w'.heap[k]? = some (.cells cells ty fz)∧unfrozen cells fz∧l'.length≤cap∧cells.size=cap*t.size
  new:∀ b∈bs,∀ k∈τ' b,E.N k∧k<w'.heap.size∧¬ Own μ bl k
  nodup:∀ b∈bs,(τ' b).Nodup
  apart:∀ b∈bs,∀ b'∈bs,b≠b'→∀ k∈τ' b,k ∉ τ' b'
  apart':∀ b∈bs,∀ c,c ∉ bs→Tree bl c→∀ k∈τ' b,k ∉ τ c
theorem NestT.holds {w:World} {t:Ty} {l:List t.den} {m:Option (Nat × Nat)} {F:List Nat} (h:NestT w t l m F) {k cap:Nat} (hm:m=some (k,cap)) {cells:Array Value} {ty:TypeId} {fz:Nat × Nat} (hk:w.heap[k]? = some (.cells cells ty fz)) :
    Elems w (fun j=>j∈F) t l cells.toList:=by
  rcases h with ⟨rfl,_⟩ | ⟨k',cap',cells',ty',fz',Fs,h1,h2,rfl,h4,h5⟩
  · intro i hi;exact absurd hi (Nat.not_lt_zero _)
  · rw [hm] at h1
    cases h1
    rw [hk] at h2
    cases h2
    exact fun i hi=>(h5 i hi).holds.weaken fun q hq _=>mem_flatten_getD hq
section
variable {E:Env} {w0 w w':World} {μ:Lie} {bl bl':List Blk} {τ τ':Nat→List Nat} {bs F:List Nat}
theorem Change.mine (h:Change E w μ bl τ w' bl' bs F τ') {b:Nat}:mine bl' b↔mine bl b:=by
  by_cases hb:b∈bs
  · obtain ⟨g,t,l,l',h1,h2,_⟩:=h.rows b hb
    unfold Ev.mine;rw [h1,h2]
  · unfold Ev.mine;rw [h.others b hb]
theorem Change.own (h:Change E w μ bl τ w' bl' bs F τ') {k:Nat}:Own μ bl' k↔Own μ bl k:=by
  constructor <;> rintro ⟨b,c,h1,h2⟩
  · exact ⟨b,c,h1,h.mine.mp h2⟩
  · exact ⟨b,c,h1,h.mine.mpr h2⟩
theorem Change.evoQ (h:Change E w μ bl τ w' bl' bs F τ'):EvoQ μ bl μ bl':=by
  refine ⟨Nat.le_of_eq h.len.symm,fun b cs hlt hb=>?_,fun b g own nf t l hlt hb=>?_⟩
  · by_cases hbs:b∈bs
    · obtain ⟨g,t,l,l',h1,h2,_⟩:=h.rows b hbs
      rw [h2] at hb;cases hb
    · rw [h.others b hbs] at hb;exact ⟨⟨cs,hb⟩,rfl⟩
  · by_cases hbs:b∈bs
    · obtain ⟨g',t',l1,l',h1,h2,h3,_⟩:=h.rows b hbs
      rw [h2] at hb;cases hb
      exact ⟨_,true,true,l1,h1,Nat.le_refl _,fun _=>⟨h3.symm,rfl⟩⟩
    · rw [h.others b hbs] at hb;exact ⟨g,own,nf,l,hb,Nat.le_refl _,fun _=>⟨rfl,rfl⟩⟩
theorem Mem.ownN (hm:Mem E w0 w μ bl) {k:Nat} (ho:Own μ bl k):E.N k:=by
  obtain ⟨b,c,h1,h2⟩:=ho
  unfold Ev.mine at h2
  split at h2
  · next cs hb =>
    obtain ⟨k',c',vals,ty,fz,q1,q2,_⟩:=hm.blocks b _ hb
    rw [h1] at q1;cases q1;exact q2
  · next g own nf t l hb =>
    rcases hm.blocks b _ hb with ⟨q1,_⟩ | ⟨k',cap,vals,ty,fz,q1,q2,_⟩
    · rw [h1] at q1;cases q1
    · rw [h1] at q1;cases q1;exact q2
  · exact h2.elim
theorem Change.N (h:Change E w μ bl τ w' bl' bs F τ') (hm:Mem E w0 w μ bl) (ht:TreeOk E w μ bl τ) {k:Nat} (hk:k∈F):E.N k∧k<w.heap.size:=by
  obtain ⟨b,hb,hT,hk⟩:=h.from_ k hk
  have:=Fof_mem hm ht hT hk
  exact ⟨this.1,this.2.1⟩
theorem Change.keep (h:Change E w μ bl τ w' bl' bs F τ') (hm:Mem E w0 w μ bl) (ht:TreeOk E w μ bl τ) {b k c:Nat} (hb:b ∉ bs) (hmb:Ev.mine bl b) (hk:μ b=some (k,c)):w'.heap[k]? = w.heap[k]?:=by
  refine h.marked.block k (hm.lt (mine_alive hmb) hk) fun hF=>?_
  obtain ⟨b2,hb2,hT,hk2⟩:=h.from_ k hF
  rcases (Fof_mem hm ht hT hk2).2.2 with ⟨c2,q⟩ | q
  · have:=hm.apart b b2 k c c2 hk q (mine_alive hmb) (mine_alive (tree_mine hT))
    subst this
    exact hb hb2
  · exact (ht.new b2 hT k q).2.2 ⟨b,c,hk,hmb⟩
theorem Change.tree (h:Change E w μ bl τ w' bl' bs F τ') (hm:Mem E w0 w μ bl) (ht:TreeOk E w μ bl τ) {c:Nat} (hc:c ∉ bs) (hT:Tree bl c):∀ k∈τ c,w'.heap[k]? = w.heap[k]?:=by
  intro k hk
  obtain ⟨h1,h2,h3⟩:=ht.new c hT k hk
  refine h.marked.block k h2 fun hF=>?_
  obtain ⟨b2,hb2,hT2,hk2⟩:=h.from_ k hF
  rcases (Fof_mem hm ht hT2 hk2).2.2 with ⟨c2,q⟩ | q
  · exact h3 ⟨b2,c2,q,tree_mine hT2⟩
  · exact ht.apart b2 c hT2 hT (fun e=>hc (e ▸ hb2)) k q hk
theorem Change.sound (h:Change E w μ bl τ w' bl' bs F τ') (hm:Mem E w0 w μ bl) (ht:TreeOk E w μ bl τ) (hq:quietBl bl 0 bs=true) :
    Mem E w0 w' μ bl'∧TreeOk E w' μ bl' (fun b=>if b∈bs then τ' b else τ b):=by
  have hap:E.Apart w w':=⟨h.marked.os,h.marked.tape,h.marked.output,h.marked.size,fun k hk hn=>h.marked.block k hk fun hF=>hn (h.N hm ht hF).1⟩
  have hold:∀ k,k<w.heap.size→¬ E.N k→w'.heap[k]? = w.heap[k]?:=fun k hk hn=>h.marked.block k hk fun hF=>hn (h.N hm ht hF).1
  have hownN:∀ k,Own μ bl' k→E.N k:=fun k hk=>hm.ownN (h.own.mp hk)
  have htree:∀ b,Tree bl' b→Tree bl b:=by
    intro b ⟨g,t,l,q⟩
    by_cases hb:b∈bs
    · obtain ⟨g',t',l1,l',h1,_⟩:=h.rows b hb
      exact ⟨g',t',l1,h1⟩
    · rw [h.others b hb] at q;exact ⟨g,t,l,q⟩
  have halive:∀ b,alive bl' b→alive bl b:=by
    intro b ha
    by_cases hb:b∈bs
    · obtain ⟨g',t',l1,l',h1,_⟩:=h.rows b hb
      unfold alive;rw [h1];trivial
    · unfold alive at ha ⊢;rwa [h.others b hb] at ha
  refine ⟨⟨hm.start,hm.below.trans hap,Nat.le_trans hm.big h.marked.size,fun b blk hbl=>?_,fun b b' k c c' h1 h2 a1 a2=>hm.apart b b' k c c' h1 h2 (halive b a1) (halive b' a2)⟩,?_⟩
  · by_cases hb:b∈bs
    · obtain ⟨g,t,l,l',h1,h2,h3,h4,h5⟩:=h.rows b hb
      rw [h2] at hbl
      cases hbl
      rcases hm.blocks b _ h1 with ⟨q1,q2⟩ | ⟨k,cap,vals,ty,fz,q1,q2,q3,q4,q5,q6,q7⟩
      · refine Or.inl ⟨q1,?_⟩
        rw [q2] at h3
        exact List.eq_nil_of_length_eq_zero h3
      · obtain ⟨cells,ty',fz',p1,p2,p3,p4⟩:=h5 k cap q1
        refine Or.inr ⟨k,cap,cells,ty',fz',q1,q2,p1,p2,p3,p4,fun i hi=>(h4.holds q1 p1 i hi).weaken fun j hj _=>?_⟩
        obtain ⟨n1,n2,n3⟩:=h.new b hb j hj
        exact ⟨Or.inl n1,fun ho=>n3 (h.own.mp ho)⟩
    · rw [h.others b hb] at hbl
      have hqb:=quietBl_get hq b blk hbl (by rwa [Nat.zero_add])
      cases blk with
      | dead=>trivial
      | var cs =>
        obtain ⟨k,c,vals,ty,fz,q1,q2,q3,q4,q5⟩:=hm.blocks b _ hbl
        have hmb:Ev.mine bl b:=by unfold Ev.mine;rw [hbl];trivial
        refine ⟨k,c,vals,ty,fz,q1,q2,by rw [h.keep hm ht hb hmb q1];exact q3,q4,?_⟩
        have hall:∀ x∈cs,x.isQuiet=true:=List.all_eq_true.mp hqb
        have:cs.map A.quiet=cs:=by
          exact (List.map_congr_left (g:=id) fun x hx=>quiet_same (hall x hx)).trans (List.map_id _)
        rw [← this]
        exact h.evoQ.quiets hold hownN q5
      | arr g own nf t l =>
        simp only [Bool.and_eq_true,Bool.or_eq_true] at hqb
        obtain ⟨rfl,hqb⟩:=hqb
        have hmb:Ev.mine bl b:=by unfold Ev.mine;rw [hbl]
        rcases hm.blocks b _ hbl with q | ⟨k,cap,vals,ty,fz,q1,q2,q3,q4,q5,q6,q7⟩
        · exact Or.inl q
        · have hk:=h.keep hm ht hb hmb q1
          refine Or.inr ⟨k,cap,vals,ty,fz,q1,q2,by rw [hk];exact q3,q4,q5,q6,fun i hi=>?_⟩
          rcases hqb with rfl | hfl
          · have hT:Tree bl b:=⟨g,t,l,hbl⟩
            have hn:=(ht.nest b g t l hbl).mono (w':=w') (h.tree hm ht hb hT) fun k' c' hk'=>h.keep hm ht hb hmb hk'
            refine (hn.holds q1 (by rw [hk];exact q3) i hi).weaken fun j hj _=>?_
            obtain ⟨n1,n2,n3⟩:=ht.new b hT j hj
            exact ⟨Or.inl n1,fun ho=>n3 (h.own.mp ho)⟩
          · have h1:=(q7 i hi).tree hfl
            have h2:HoldsT w' t l[i] ((vals.toList.drop (i*t.size)).take t.size) []:=h1.mono fun _ hk=>by cases hk
            exact h2.holds.flat hfl
  · refine ⟨fun b g t l hbl=>?_,fun b hT k hk=>?_,fun b hT=>?_,fun b b' hT hT' hne k hk hk'=>?_⟩
    · by_cases hb:b∈bs
      · rw [if_pos hb]
        obtain ⟨g',t',l1,l',h1,h2,h3,h4,h5⟩:=h.rows b hb
        rw [h2] at hbl
        cases hbl
        exact h4
      · rw [if_neg hb]
        rw [h.others b hb] at hbl
        have hT:Tree bl b:=⟨g,t,l,hbl⟩
        exact (ht.nest b g t l hbl).mono (h.tree hm ht hb hT) fun k c hk=>h.keep hm ht hb (tree_mine hT) hk
    · by_cases hb:b∈bs
      · rw [if_pos hb] at hk
        obtain ⟨n1,n2,n3⟩:=h.new b hb k hk
        exact ⟨n1,n2,fun ho=>n3 (h.own.mp ho)⟩
      · rw [if_neg hb] at hk
        obtain ⟨n1,n2,n3⟩:=ht.new b (htree b hT) k hk
        exact ⟨n1,Nat.lt_of_lt_of_le n2 h.marked.size,fun ho=>n3 (h.own.mp ho)⟩
    · by_cases hb:b∈bs
      · rw [if_pos hb];exact h.nodup b hb
      · rw [if_neg hb];exact ht.nodup b (htree b hT)
    · by_cases hb:b∈bs
      · rw [if_pos hb] at hk
        by_cases hb':b'∈bs
        · rw [if_pos hb'] at hk'
          exact h.apart b hb b' hb' hne k hk hk'
        · rw [if_neg hb'] at hk'
          exact h.apart' b hb b' hb' (htree b' hT') k hk hk'
      · rw [if_neg hb] at hk
        by_cases hb':b'∈bs
        · rw [if_pos hb'] at hk'
          exact h.apart' b' hb' b hb (htree b hT) k hk' hk
        · rw [if_neg hb'] at hk'
          exact ht.apart b b' (htree b hT) (htree b' hT') hne k hk hk'
theorem Change.rel {st:St} {a:Act} (h:Change E w μ st.bl τ w' bl' bs F τ') (hR:Rel E w0 μ st a w) (ht:TreeOk E w μ st.bl τ) (hq:quietBl st.bl 0 bs=true) :
    Rel E w0 μ { st with tmps:=st.tmps.map V.quiet,bl:=bl' } a w':=by
  obtain ⟨h1,h2⟩:=h.sound hR.mem ht hq
  refine ⟨h1,?_,hR.defers,⟨_,h2⟩⟩
  have hold:∀ k,k<w.heap.size→¬ E.N k→w'.heap[k]? = w.heap[k]?:=fun k hk hn=>h.marked.block k hk fun hF=>hn (h.N hR.mem ht hF).1
  have hownN:∀ k,Own μ bl' k→E.N k:=fun k hk=>hR.mem.ownN (h.own.mp hk)
  have:∀ (xs:List V) (vs:List Value),All2 (RepV E w μ st.bl) xs vs→All2 (RepV E w' μ bl') (xs.map V.quiet) vs:=by
    intro xs
    induction xs with
    | nil=>intro vs hr;cases vs with | nil=>trivial | cons _ _=>exact hr.elim
    | cons x xs ih=>intro vs hr;cases vs with
      | nil=>exact hr.elim
      | cons v vs=>exact ⟨h.evoQ.quietV hold hownN hr.1,ih vs hr.2⟩
  exact this _ _ hR.slots
end
end Go.Proofs.YtigbabjhcihmaaaGreatDoor.Ev
namespace Go.Proofs.YtigbabjhcihmaaaGreatDoor.Ev
open Go Go.RowKit
set_option linter.unusedVariables false
set_option linter.unusedSimpArgs false
variable {ρ:Type}
def HoldsTV (w:World) (t:Ty) (x:t.den) (v:Value) (F:List Nat):Prop :=
  match t.isAgg with
  | true=>∃ vs:List Value,v = .agg vs.toArray∧HoldsT w t x vs F
  | false=>HoldsT w t x [v] F
structure MSpec where
  t:Ty
  sem:t.den→Int→Option (t.den × Int)
structure MSpec.ok (P:Program) (f:FuncId) (m:MSpec):Prop where
  fn:∃ fn,P.funcs[f]? = some fn∧fn.name ≠ "runtime.NumGoroutine" ∧ fn.body.isSome=true
  calls:∀ (w:World) (v:Value) (x:m.t.den) (F:List Nat) (k:Int) (x':m.t.den) (k':Int),HoldsTV w m.t x v F→F.Nodup→(∀ j∈F,j<w.heap.size)→m.sem x k=some (x',k') →
    Calls P f #[v,.int .i64 k] w fun e w'=>match e with
      | .returned u=>u = .int .i64 k'∧Marked F w w'∧∃ F',HoldsTV w' m.t x' v F'∧F'.Nodup∧∀ j∈F',(j∈F∨w.heap.size≤j)∧j<w'.heap.size
      | _=>False
def setRows:List Blk→List (Option Nat)→List Blk→Option (List Blk)
  | bl,[],[]=>some bl
  | bl,some b :: r,.arr _ _ _ e l :: q=>match bl[b]? with
    | some (.arr g _ _ _ _)=>setRows (bl.set b (.arr g true true e l)) r q
    | _=>none
  | bl,none :: r,_ :: q=>setRows bl r q
  | _,_,_=>none
def evWhole (m:MSpec) (args:List V) (st:St) (K:V→St→Option ρ):Option ρ :=
  match args with
  | [X,.at (.int .i64 k)]=>match ownRefs st.bl X.cells,movable st.bl X.cells,m.t.ofV false st.bl X with
    | some rs,some bs,some x=>bif apartAll bs&&quietBl st.bl 0 bs then (m.sem x k).bind fun y =>
      match setRows st.bl rs (m.t.ownRows true y.1) with
      | some bl'=>K (.at (.int .i64 y.2)) { st with tmps:=st.tmps.map V.quiet,bl:=bl' }
      | none=>none
      else none
    | _,_,_=>none
  | _=>none
section
variable {P:Program} {cx:Cx} {E:Env} {w0 w:World} {μ:Lie} {bl:List Blk} {st:St} {a:Act} {o:Oper}
theorem setRows_spec:∀ (rs:List (Option Nat)) (bl:List Blk) (rows:List Blk) (bl':List Blk),setRows bl rs rows=some bl'→apartAll (theRows rs)=true →
    bl'.length=bl.length∧(∀ b,b ∉ theRows rs→bl'[b]? = bl[b]?)∧∀ (i b:Nat),rs[i]? = some (some b) →
      ∃ (g:Nat) (own nf:Bool) (t:Ty) (l:List t.den) (g2:Nat) (own2 nf2:Bool) (e:Ty) (l':List e.den),bl[b]? = some (.arr g own nf t l)∧rows[i]? = some (.arr g2 own2 nf2 e l')∧bl'[b]? = some (.arr g true true e l')
  | [],bl,rows,bl',h,ha=>by
    cases rows with
    | nil=>simp only [setRows] at h;cases h;exact ⟨rfl,fun _ _=>rfl,fun i b hi=>by simp at hi⟩
    | cons _ _=>simp only [setRows] at h;cases h
  | none :: rs,bl,rows,bl',h,ha=>by
    cases rows with
    | nil=>simp only [setRows] at h;cases h
    | cons q rows =>
      unfold setRows at h
      obtain ⟨h1,h2,h3⟩:=setRows_spec rs bl rows bl' h ha
      refine ⟨h1,h2,fun i b hi=>?_⟩
      cases i with
      | zero=>simp at hi
      | succ i=>exact h3 i b (by simpa using hi)
  | some b0 :: rs,bl,rows,bl',h,ha=>by
    cases rows with
    | nil=>simp only [setRows] at h;cases h
    | cons q rows =>
      cases q with
      | var _=>simp only [setRows] at h;cases h
      | dead=>simp only [setRows] at h;cases h
      | arr g2 own2 nf2 e l =>
        unfold setRows at h
        split at h
        case h_2=>cases h
        next g own nf t l0 hb =>
        simp only [theRows,apartAll,Bool.and_eq_true,Bool.not_eq_true'] at ha
        have hn:b0 ∉ theRows rs:=by
          have:=ha.1
          rw [List.contains_eq_mem,decide_eq_false_iff_not] at this
          exact this
        obtain ⟨h1,h2,h3⟩:=setRows_spec rs _ rows bl' h ha.2
        refine ⟨by rw [h1];simp,fun b hbn=>?_,fun i b hi=>?_⟩
        · rw [theRows,List.mem_cons,not_or] at hbn
          rw [h2 b hbn.2,getElem?_set_ne' hbn.1]
        · cases i with
          | zero =>
            simp only [List.getElem?_cons_zero,Option.some.injEq] at hi
            subst hi
            exact ⟨g,own,nf,t,l0,g2,own2,nf2,e,l,hb,rfl,by rw [h2 b0 hn,getElem?_set_self hb]⟩
          | succ i =>
            have hi:rs[i]? = some (some b):=by simpa using hi
            obtain ⟨g',own',nf',t',l',g3,own3,nf3,e',l3,q1,q2,q3⟩:=h3 i b hi
            have hne:b≠b0:=by rintro rfl;exact hn (theRows_mem.mpr (List.mem_of_getElem? hi))
            rw [getElem?_set_ne' hne] at q1
            exact ⟨g',own',nf',t',l',g3,own3,nf3,e',l3,q1,by simpa using q2,q3⟩
theorem refs_rows:∀ {cs:List A} {rs:List (Option Nat)} {bs:List Nat},ownRefs bl cs=some rs→movable bl cs=some bs→theRows rs=bs
  | [],rs,bs,h1,h2=>by unfold ownRefs at h1;unfold movable at h2;cases h1;cases h2;rfl
  | c :: cs,rs,bs,h1,h2=>by
    cases c with
    | os b g =>
      unfold ownRefs at h1
      unfold movable at h2
      split at h2
      case h_2=>cases h2
      next g' t l bs' hb hbs =>
      have h2:=(cond_none h2).2
      cases h2
      rw [hb] at h1
      split at h1
      · next hrs =>
        have h1:=(cond_none h1).2
        cases h1
        show b :: theRows _=_
        rw [refs_rows hrs hbs]
      · cases h1
    | nil t =>
      unfold ownRefs at h1
      unfold movable at h2
      split at h1
      · next rs' hrs =>
        cases h1
        show theRows rs'=bs
        exact refs_rows (cs:=cs) hrs h2
      · cases h1
    | int k n=>unfold ownRefs at h1;unfold movable at h2;exact refs_rows (cs:=cs) h1 h2
    | bool b=>unfold ownRefs at h1;unfold movable at h2;exact refs_rows (cs:=cs) h1 h2
    | str s=>unfold ownRefs at h1;unfold movable at h2;exact refs_rows (cs:=cs) h1 h2
    | sl fr t l=>unfold movable at h2;cases h2
    | old t l=>unfold movable at h2;cases h2
    | undef=>unfold movable at h2;cases h2
    | err b=>unfold movable at h2;cases h2
    | ptr b off=>unfold movable at h2;cases h2
    | ep b g i off=>unfold movable at h2;cases h2
    | pp fr t x off=>unfold movable at h2;cases h2
    | fn f caps=>unfold movable at h2;cases h2
def RowAtT (w':World) (μ:Lie) (bl:List Blk) (o:Option Nat) (v:Value) (blk:Blk) (G:List Nat):Prop :=
  ∃ (e:Ty) (l':List e.den),blk = .arr 0 true true e l'∧HoldsT w' (.slice e) l' [v] G∧match o with
    | some b=>∃ (g:Nat) (l:List e.den),bl[b]? = some (.arr g true true e l)∧RowVal (μ b) l.length v
    | none=>v = .slice none 0 0
theorem movable_tail {c:A} {cs:List A} (h:(movable bl (c :: cs)).isSome=true):(movable bl cs).isSome=true:=by
  cases c with
  | os b g =>
    unfold movable at h
    split at h
    · next hbs=>rw [hbs];rfl
    · cases h
  | nil t=>unfold movable at h;exact h
  | int k n=>unfold movable at h;exact h
  | bool b=>unfold movable at h;exact h
  | str s=>unfold movable at h;exact h
  | sl fr t l=>unfold movable at h;cases h
  | old t l=>unfold movable at h;cases h
  | undef=>unfold movable at h;cases h
  | err b=>unfold movable at h;cases h
  | ptr b off=>unfold movable at h;cases h
  | ep b g i off=>unfold movable at h;cases h
  | pp fr t x off=>unfold movable at h;cases h
  | fn f caps=>unfold movable at h;cases h
theorem rows_of:∀ (t:Ty) (cs:List A) (us:List Value) (x:t.den) (rest:List A) (rs:List (Option Nat)),RepAs E w μ bl cs us→t.ofCells false (cs.map (A.view bl))=some (x,rest)→ownRefs bl cs=some rs→(movable bl cs).isSome=true →
    ∃ c1 c2 u1 u2 r1 r2,cs=c1++c2∧us=u1++u2∧rs=r1++r2∧rest=c2.map (A.view bl)∧RepAs E w μ bl c2 u2∧ownRefs bl c2=some r2∧(movable bl c2).isSome=true∧u1.length=t.size ∧
      ∀ (w':World) (x':t.den) (F':List Nat),HoldsT w' t x' u1 F'→∃ Gs:List (List Nat),Gs.length=r1.length∧Gs.flatten=F'∧(t.ownRows true x').length=r1.length ∧
        ∀ (i:Nat) (o:Option Nat) (blk:Blk),r1[i]? = some o→(t.ownRows true x')[i]? = some blk→∃ v,RowAtT w' μ bl o v blk (Gs.getD i []):=by
  intro t
  have base:∀ (y:A),(∀ b g,y ≠ .os b g)→(∀ f t l,y ≠ .sl f t l)→∀ (c:A) (cs:List A) (bs:List (Option Nat)),c.view bl=y→y ≠ .undef→ownRefs bl (c :: cs)=some bs→c=y∧ownRefs bl cs=some bs:=by
    intro y hy1 hy2 c cs bs hv hu h
    have hc:c=y:=by
      cases c with
      | os b g =>
        simp only [A.view] at hv
        split at hv
        · next g' own nf t l hb =>
          cases hg:g == g' with
          | true=>rw [hg] at hv;exact absurd hv.symm (hy2 _ _ _)
          | false=>rw [hg] at hv;exact absurd hv.symm hu
        · exact absurd hv.symm hu
      | nil t=>exact absurd hv.symm (hy2 _ _ _)
      | old t l=>exact absurd hv.symm (hy2 _ _ _)
      | _=>exact hv
    have hn1:∀ t,c ≠ .nil t:=by rintro t rfl;exact hy2 _ _ _ hv.symm
    have hn2:∀ t l,c ≠ .old t l:=by rintro t l rfl;exact hy2 _ _ _ hv.symm
    subst hc
    refine ⟨rfl,?_⟩
    cases c <;> first | exact h | exact absurd rfl (hy1 _ _) | exact absurd rfl (hy2 _ _ _) | exact absurd rfl (hn1 _) | exact absurd rfl (hn2 _ _)
  induction t with
  | int k =>
    intro cs us x rest bs hr hc hb hm
    cases cs with
    | nil=>simp [Ty.ofCells] at hc
    | cons c cs =>
      cases us with
      | nil=>exact hr.elim
      | cons u us =>
        simp only [List.map_cons] at hc
        cases hv:c.view bl <;> rw [hv] at hc <;> simp [Ty.ofCells] at hc
        obtain ⟨rfl,rfl,rfl⟩:=hc
        obtain ⟨rfl,hb'⟩:=base _ (by simp) (by simp) c cs bs hv (by simp) hb
        exact ⟨[_],cs,[u],us,[],bs,rfl,rfl,rfl,rfl,hr.2,hb',movable_tail hm,rfl,fun w' x' F' h=>⟨[],rfl,h.2.symm,rfl,fun i o blk hi=>by simp at hi⟩⟩
  | bool =>
    intro cs us x rest bs hr hc hb hm
    cases cs with
    | nil=>simp [Ty.ofCells] at hc
    | cons c cs =>
      cases us with
      | nil=>exact hr.elim
      | cons u us =>
        simp only [List.map_cons] at hc
        cases hv:c.view bl <;> rw [hv] at hc <;> simp [Ty.ofCells] at hc
        obtain ⟨rfl,rfl⟩:=hc
        obtain ⟨rfl,hb'⟩:=base _ (by simp) (by simp) c cs bs hv (by simp) hb
        exact ⟨[_],cs,[u],us,[],bs,rfl,rfl,rfl,rfl,hr.2,hb',movable_tail hm,rfl,fun w' x' F' h=>⟨[],rfl,h.2.symm,rfl,fun i o blk hi=>by simp at hi⟩⟩
  | str =>
    intro cs us x rest bs hr hc hb hm
    cases cs with
    | nil=>simp [Ty.ofCells] at hc
    | cons c cs =>
      cases us with
      | nil=>exact hr.elim
      | cons u us =>
        simp only [List.map_cons] at hc
        cases hv:c.view bl <;> rw [hv] at hc <;> simp [Ty.ofCells] at hc
        obtain ⟨rfl,rfl⟩:=hc
        obtain ⟨rfl,hb'⟩:=base _ (by simp) (by simp) c cs bs hv (by simp) hb
        exact ⟨[_],cs,[u],us,[],bs,rfl,rfl,rfl,rfl,hr.2,hb',movable_tail hm,rfl,fun w' x' F' h=>⟨[],rfl,h.2.symm,rfl,fun i o blk hi=>by simp at hi⟩⟩
  | adr =>
    intro cs us x rest bs hr hc hb hm
    cases cs with
    | nil=>simp [Ty.ofCells] at hc
    | cons c cs=>simp only [List.map_cons] at hc;simp [Ty.ofCells] at hc
  | err =>
    intro cs us x rest bs hr hc hb hm
    cases cs with
    | nil=>simp [Ty.ofCells] at hc
    | cons c cs =>
      cases us with
      | nil=>exact hr.elim
      | cons u us =>
        simp only [List.map_cons] at hc
        cases hv:c.view bl <;> rw [hv] at hc <;> simp [Ty.ofCells] at hc
        obtain ⟨rfl,rfl⟩:=hc
        obtain ⟨rfl,hb'⟩:=base _ (by simp) (by simp) c cs bs hv (by simp) hb
        exact ⟨[_],cs,[u],us,[],bs,rfl,rfl,rfl,rfl,hr.2,hb',movable_tail hm,rfl,fun w' x' F' h=>⟨[],rfl,h.2.symm,rfl,fun i o blk hi=>by simp at hi⟩⟩
  | slice e ih =>
    intro cs us x rest bs hr hc hb hm
    have one:∀ (c:A) (u:Value) (o:Option Nat),(match o with
        | some b=>∃ (g:Nat) (l:List e.den),bl[b]? = some (.arr g true true e l)∧RowVal (μ b) l.length u
        | none=>u = .slice none 0 0)→∀ (w':World) (x':List e.den) (F':List Nat),HoldsT w' (.slice e) x' [u] F'→∃ Gs:List (List Nat),Gs.length=[o].length∧Gs.flatten=F'∧((Ty.slice e).ownRows true x').length=[o].length ∧
          ∀ (i:Nat) (o':Option Nat) (blk:Blk),[o][i]? = some o'→((Ty.slice e).ownRows true x')[i]? = some blk→∃ v,RowAtT w' μ bl o' v blk (Gs.getD i []):=by
      intro c u o ho w' x' F' h
      refine ⟨[F'],rfl,by simp,rfl,fun i o' blk hi hblk=>?_⟩
      cases i with
      | succ i=>simp at hi
      | zero =>
        simp only [List.getElem?_cons_zero,Option.some.injEq] at hi
        subst hi
        simp only [Ty.ownRows,List.getElem?_cons_zero,Option.some.injEq] at hblk
        exact ⟨u,e,x',hblk.symm,h,ho⟩
    cases cs with
    | nil=>simp [Ty.ofCells] at hc
    | cons c cs =>
      cases us with
      | nil=>exact hr.elim
      | cons u us =>
        cases c with
        | nil t =>
          simp only [ownRefs] at hb
          split at hb
          case h_2=>cases hb
          next bs' hbs =>
          cases hb
          simp only [List.map_cons,A.view,Ty.ofCells] at hc
          split at hc
          case h_2=>cases hc
          next p hq =>
          subst p
          replace hc:=(cond_none' hc).2
          cases hc
          exact ⟨[_],cs,[u],us,[none],bs',rfl,rfl,rfl,rfl,hr.2,hbs,movable_tail hm,rfl,one (.nil t) u none hr.1⟩
        | os b g =>
          simp only [ownRefs] at hb
          split at hb
          case h_2=>cases hb
          next g' nf t l bs' hbl hbs =>
          have hg:=(cond_none hb).1
          replace hb:=(cond_none hb).2
          cases hb
          have hgg:g=g':=by simpa using hg
          subst hgg
          have hmm:=hm
          unfold movable at hmm
          rw [hbl] at hmm
          have hnf:nf=true:=by
            cases nf with
            | true=>rfl
            | false=>simp at hmm
          subst hnf
          simp only [List.map_cons,A.view,hbl,beq_self_eq_true,cond_true,Ty.ofCells] at hc
          split at hc
          case h_2=>cases hc
          next p hq =>
          subst p
          replace hc:=(cond_none' hc).2
          cases hc
          have hrow:=(hr.1.2 _ _ _ _ _ hbl).2 rfl
          exact ⟨[_],cs,[u],us,[some b],bs',rfl,rfl,rfl,rfl,hr.2,hbs,movable_tail hm,rfl,one (.os b g) u (some b) ⟨g,l,hbl,hrow⟩⟩
        | sl f t l=>unfold movable at hm;cases hm
        | old t l=>unfold movable at hm;cases hm
        | _=>simp [Ty.ofCells,A.view] at hc
  | pair p q ihp ihq =>
    intro cs us x rest bs hr hc hb hm
    simp only [Ty.ofCells] at hc
    split at hc
    case h_2=>cases hc
    next x1 r1 h1 =>
    split at hc
    case h_2=>cases hc
    next x2 r2 h2 =>
    cases hc
    obtain ⟨c1,c2,u1,u2,b1,b2,rfl,rfl,rfl,rfl,p1,p2,p3,p5,p4⟩:=ihp cs us x1 r1 bs hr h1 hb hm
    obtain ⟨c3,c4,u3,u4,b3,b4,rfl,rfl,rfl,rfl,q1,q2,q3,q5,q4⟩:=ihq c2 u2 x2 _ b2 p1 h2 p2 p3
    refine ⟨c1++c3,c4,u1++u3,u4,b1++b3,b4,by simp,by simp,by simp,rfl,q1,q2,q3,by simp only [List.length_append,Ty.size,p5,q5],fun w' x' F' h=>?_⟩
    simp only [HoldsT] at h
    obtain ⟨us',ws',F1,F2,e1,rfl,k1,k2⟩:=h
    have hl:u1.length=us'.length:=by rw [k1.holds.length,p5]
    obtain ⟨rfl,rfl⟩:=List.append_inj e1 hl
    obtain ⟨G1,a1,a2,a3,a4⟩:=p4 w' x'.1 F1 k1
    obtain ⟨G2,d1,d2,d3,d4⟩:=q4 w' x'.2 F2 k2
    refine ⟨G1++G2,by simp only [List.length_append,a1,d1],by rw [List.flatten_append,a2,d2],by simp only [Ty.ownRows,List.length_append,a3,d3],fun i o blk hi hblk=>?_⟩
    simp only [Ty.ownRows] at hblk
    by_cases hlt:i<b1.length
    · rw [List.getElem?_append_left hlt] at hi
      rw [List.getElem?_append_left (by rw [a3];exact hlt)] at hblk
      rw [List.getD_eq_getElem?_getD,List.getElem?_append_left (by rw [a1];exact hlt),← List.getD_eq_getElem?_getD]
      exact a4 i o blk hi hblk
    · rw [List.getElem?_append_right (by omega)] at hi
      rw [List.getElem?_append_right (by omega),a3] at hblk
      rw [List.getD_eq_getElem?_getD,List.getElem?_append_right (by omega),a1,← List.getD_eq_getElem?_getD]
      exact d4 _ o blk hi hblk
  | struct t ih =>
    intro cs us x rest bs hr hc hb hm
    exact ih cs us x rest bs hr hc hb hm
theorem HoldsTV.cells {w:World} {t:Ty} {x:t.den} {v:Value} {F:List Nat} (h:HoldsTV w t x v F):HoldsT w t x v.cells.toList F:=by
  unfold HoldsTV at h
  cases ha:t.isAgg with
  | true=>rw [ha] at h;obtain ⟨vs,rfl,h⟩:=h;exact h
  | false =>
    rw [ha] at h
    have h:HoldsT w t x [v] F:=h
    have:v.cells.toList=[v]:=by
      cases t with
      | int k=>obtain ⟨e,_⟩:=h;cases e;rfl
      | bool=>obtain ⟨e,_⟩:=h;cases e;rfl
      | str=>obtain ⟨e,_⟩:=h;cases e;rfl
      | adr =>
        obtain ⟨⟨u,e,hb⟩,_⟩:=h
        cases e
        cases v <;> first | rfl | simp [Value.oneCell'] at hb
      | err =>
        obtain ⟨⟨u,e,hb⟩,_⟩:=h
        cases e
        split at hb
        · obtain ⟨_,_,rfl⟩:=hb;rfl
        · subst hb;rfl
      | slice e =>
        simp only [HoldsT] at h
        obtain ⟨u,e,h⟩:=h
        cases e
        rcases h with ⟨_,_,rfl⟩ | ⟨_,_,_,_,_,_,rfl,_⟩ <;> rfl
      | pair a b =>
        have:=h.holds.length
        have h1:=a.size_pos
        have h2:=b.size_pos
        simp only [List.length_singleton,Ty.size] at this
        omega
      | struct b=>cases ha
    rw [this];exact h
def CallQ (E:Env) (w0:World) (a:Act) (K:V→St→Option ρ) (r:ρ) (e:Ending) (w':World):Prop :=
  match e with
  | .returned v=>∃ X st' μ',K X st'=some r∧RepV E w' μ' st'.bl X v∧Rel E w0 μ' st' a w'
  | _=>False
theorem evWhole_sound {f:FuncId} {m:MSpec} (hok:m.ok P f) (hR:Rel E w0 μ st a w) {Xs:List V} {vs:List Value} {K:V→St→Option ρ} {r:ρ} (hX:All2 (RepV E w μ st.bl) Xs vs) (h:evWhole m Xs st K=some r) :
    Calls P f vs.toArray w (CallQ E w0 a K r):=by
  unfold evWhole at h
  split at h
  case h_2=>cases h
  next X k =>
  split at h
  case h_2=>cases h
  next rs bs x hrs hbs hx =>
  have hc:=(cond_none h).1
  replace h:=(cond_none h).2
  rw [Bool.and_eq_true] at hc
  obtain ⟨hap,hq⟩:=hc
  cases hsem:m.sem x k with
  | none=>rw [hsem] at h;cases h
  | some y =>
  rw [hsem] at h
  simp only [Option.bind_some] at h
  split at h
  case h_2=>cases h
  next bl' hbl' =>
  obtain ⟨v,vs,rfl⟩:∃ v vs',vs=v :: vs':=by
    cases vs with
    | nil=>exact hX.elim
    | cons v vs=>exact ⟨v,vs,rfl⟩
  obtain ⟨v2,rfl⟩:∃ v2,vs=[v2]:=by
    cases vs with
    | nil=>exact hX.2.elim
    | cons v2 vs=>cases vs with
      | nil=>exact ⟨v2,rfl⟩
      | cons _ _=>exact hX.2.2.elim
  have hv2:v2 = .int .i64 k:=hX.2.1
  subst hv2
  have hXv:=hX.1
  obtain ⟨τ,hτ⟩:=hR.tree
  have hmv:movable st.bl X.cells=some bs:=hbs
  have htree:=ofV_tree hR.mem hτ hXv hx hmv
  have hTr:=movable_tree hmv
  have hnd:=apartAll_nodup hap
  have hF:=Fof_nodup hR.mem hτ hnd hTr
  have hFm:∀ j∈bs.flatMap (Fof μ τ),∃ b∈bs,j∈Fof μ τ b:=fun j hj=>List.mem_flatMap.mp hj
  have hlt:∀ j∈bs.flatMap (Fof μ τ),j<w.heap.size:=fun j hj=>by
    obtain ⟨b,hb,hj⟩:=hFm j hj
    exact (Fof_mem hR.mem hτ (hTr b hb) hj).2.1
  obtain ⟨cs,hfull,hcells,hofc,hagg⟩:∃ cs,X.full=some cs∧X.cells=cs∧m.t.ofCells false (cs.map (A.view st.bl))=some (x,[])∧HoldsTV w m.t x v (bs.flatMap (Fof μ τ)):=by
    cases X with
    | «at» z =>
      unfold Ty.ofV at hx
      simp only at hx
      have ha:=(cond_none' hx).1
      replace hx:=(cond_none' hx).2
      split at hx
      case h_2=>cases hx
      next z' hz =>
      cases hx
      refine ⟨[z],?_,rfl,hz,?_⟩
      · cases z <;> first | rfl | (simp only [A.view,ofCells_undef] at hz;cases hz)
      · unfold HoldsTV
        rw [ha]
        have:v.cells.toList=[v]:=by
          have hz':RepA E w μ st.bl z v:=by
            cases z <;> first | exact hXv | (simp only [A.view,ofCells_undef] at hz;cases hz)
          have h1:=hz'.one
          revert h1
          cases v <;> intro h1 <;> first | rfl | cases h1
        rw [this] at htree;exact htree
    | agg cs =>
      unfold Ty.ofV at hx
      simp only at hx
      have ha:=(cond_none hx).1
      replace hx:=(cond_none hx).2
      split at hx
      case h_2=>cases hx
      next z' hz =>
      cases hx
      refine ⟨cs,rfl,rfl,hz,?_⟩
      obtain ⟨us,rfl,_⟩:=hXv
      unfold HoldsTV
      rw [ha]
      exact ⟨us,rfl,htree⟩
    | tup _=>unfold Ty.ofV at hx;cases hx
  refine (hok.calls w v x _ k y.1 y.2 hagg hF hlt (by rw [hsem])).mono fun e w' hp=>?_
  cases e with
  | panicked c=>exact hp.elim
  | outgrown=>exact hp.elim
  | returned u =>
  obtain ⟨rfl,hmk,F',hT',hnd',hF'⟩:=hp
  have hrep:=full_sound hXv hfull
  rw [hcells] at hrs hmv
  obtain ⟨c1,c2,u1,u2,r1,r2,e1,e2,e3,e4,e5,e6,e7,e8,e9⟩:=rows_of m.t cs _ x [] rs hrep hofc hrs (by rw [hmv];rfl)
  have hc2:c2=[]:=by cases c2 with | nil=>rfl | cons _ _=>cases e4
  subst hc2
  have hu2:u2=[]:=by cases u2 with | nil=>rfl | cons _ _=>exact e5.elim
  subst hu2
  have hr2:r2=[]:=by unfold ownRefs at e6;cases e6;rfl
  subst hr2
  rw [List.append_nil] at e1 e2 e3
  subst e1 e2 e3
  obtain ⟨Gs,g1,g2,g3,g4⟩:=e9 w' y.1 F' hT'.cells
  have hbs':theRows rs=bs:=refs_rows hrs hmv
  obtain ⟨s1,s2,s3⟩:=setRows_spec rs st.bl _ bl' hbl' (by rw [hbs'];exact hap)
  have hinj:=theRows_inj rs (by rw [hbs'];exact hap)
  have hidx:∀ b∈bs,∃ i:Nat,rs[i]? = some (some b):=fun b hb=>by
    rw [← hbs',theRows_mem] at hb
    exact List.getElem?_of_mem hb
  subst g2
  have hGn:∀ i,(Gs.getD i []).Nodup:=nodup_getD hnd'
  have hGa:∀ i j k,k∈Gs.getD i []→k∈Gs.getD j []→i=j:=nodup_apart hnd'
  have hrow:∀ (i b:Nat),rs[i]? = some (some b)→∃ (g:Nat) (e:Ty) (l l':List e.den),st.bl[b]? = some (.arr g true true e l)∧bl'[b]? = some (.arr g true true e l')∧l'.length=l.length∧NestT w' e l' (μ b) (Gs.getD i []).tail ∧
      (∀ k cap,μ b=some (k,cap)→k∈Gs.getD i []∧k ∉ (Gs.getD i []).tail∧∃ cells ty fz,w'.heap[k]? = some (.cells cells ty fz)∧unfrozen cells fz∧l'.length≤cap∧cells.size=cap*e.size):=by
    intro i b hi
    obtain ⟨g,own,nf,t,l,g0,own2,nf2,e,l',p1,p2,p3⟩:=s3 i b hi
    obtain ⟨v',e',l2,q1,q2,g',l3,q3,q4⟩:=g4 i (some b) _ hi p2
    cases q1
    rw [p1] at q3
    cases q3
    refine ⟨_,_,_,_,p1,p3,?_⟩
    simp only [HoldsT] at q2
    obtain ⟨v'',hv,q2⟩:=q2
    cases hv
    have hgn:=hGn i
    rcases q2 with ⟨rfl,hG,rfl⟩ | ⟨k0,cap,cells,ty,fz,Fs,rfl,z2,z3,z4,z5,hG,z7,z8⟩
    · rw [hG]
      unfold RowVal at q4
      cases hμ:μ b with
      | none=>rw [hμ] at q4;exact ⟨q4.2.symm,Or.inl ⟨rfl,rfl⟩,fun k cap hk=>by cases hk⟩
      | some p=>obtain ⟨k1,c1⟩:=p;rw [hμ] at q4;cases q4
    · rw [hG] at hgn ⊢
      unfold RowVal at q4
      cases hμ:μ b with
      | none=>rw [hμ] at q4;cases q4.1
      | some p =>
        obtain ⟨k1,c1⟩:=p
        rw [hμ] at q4
        simp only [Value.slice.injEq,Option.some.injEq,Addr.mk.injEq,and_true,true_and] at q4
        obtain ⟨rfl,hl,rfl⟩:=q4
        refine ⟨hl,Or.inr ⟨k0,cap,cells,ty,fz,Fs,rfl,z2,rfl,z7,z8⟩,fun k cap' hk=>?_⟩
        cases hk
        exact ⟨List.mem_cons_self ..,(List.nodup_cons.mp hgn).1,cells,ty,fz,z2,z3,z4,z5⟩
  classical
  obtain ⟨ix,hix⟩:∃ ix:Nat→Nat,∀ b∈bs,rs[ix b]? = some (some b):=⟨fun b=>if hb:b∈bs then (hidx b hb).choose else 0,fun b hb=>by simp only [hb,dite_true];exact (hidx b hb).choose_spec⟩
  have htail:∀ i k,k∈(Gs.getD i []).tail→k∈Gs.getD i []:=fun i k hk=>List.mem_of_mem_tail hk
  have hinF:∀ i k,k∈Gs.getD i []→(k∈bs.flatMap (Fof μ τ)∨w.heap.size≤k)∧k<w'.heap.size:=fun i k hk=>hF' k (mem_flatten_getD hk)
  have change:Change E w μ st.bl τ w' bl' bs (bs.flatMap (Fof μ τ)) (fun b=>(Gs.getD (ix b) []).tail):=by
    refine ⟨hmk,fun k hk=>?_,s1,fun b hb=>s2 b (by rw [hbs'];exact hb),fun b hb=>?_,fun b hb k hk=>?_,fun b hb=>?_,fun b hb b' hb' hne k hk hk'=>?_,fun b hb c hc hTc k hk hkc=>?_⟩
    · obtain ⟨b,hb,hk⟩:=hFm k hk
      exact ⟨b,hb,hTr b hb,hk⟩
    · obtain ⟨g,e,l,l',q1,q2,q3,q4,q5⟩:=hrow _ b (hix b hb)
      exact ⟨g,e,l,l',q1,q2,q3,q4,fun k cap hk=>(q5 k cap hk).2.2⟩
    · obtain ⟨h1,h2⟩:=hinF _ k (htail _ k hk)
      refine ⟨?_,h2,?_⟩
      · rcases h1 with h1 | h1
        · obtain ⟨b2,hb2,h1⟩:=hFm k h1
          exact (Fof_mem hR.mem hτ (hTr b2 hb2) h1).1
        · exact E.hN k (Nat.le_trans hR.mem.big h1)
      · rintro ⟨b2,c,hμ,hmine⟩
        have hkw:=hR.mem.lt (mine_alive hmine) hμ
        rcases h1 with h1 | h1
        · obtain ⟨b3,hb3,h3⟩:=hFm k h1
          rcases (Fof_mem hR.mem hτ (hTr b3 hb3) h3).2.2 with ⟨c3,h4⟩ | h4
          · have:=hR.mem.apart b2 b3 k c c3 hμ h4 (mine_alive hmine) (mine_alive (tree_mine (hTr b3 hb3)))
            subst this
            obtain ⟨g,e,l,l',q1,q2,q3,q4,q5⟩:=hrow _ b2 (hix b2 hb3)
            obtain ⟨q6,q7,_⟩:=q5 k c hμ
            have:=hGa _ _ k q6 (htail _ k hk)
            rw [this] at q7
            exact q7 hk
          · exact (hτ.new b3 (hTr b3 hb3) k h4).2.2 ⟨b2,c,hμ,hmine⟩
        · omega
    · exact (hGn (ix b)).sublist (List.tail_sublist _)
    · have:=hGa _ _ k (htail _ k hk) (htail _ k hk')
      have h1:=hix b hb
      have h2:=hix b' hb'
      rw [this,h2] at h1
      cases h1
      exact hne rfl
    · obtain ⟨h1,h2⟩:=hinF _ k (htail _ k hk)
      obtain ⟨n1,n2,n3⟩:=hτ.new c hTc k hkc
      rcases h1 with h1 | h1
      · obtain ⟨b3,hb3,h3⟩:=hFm k h1
        have hkc':k∈Fof μ τ c:=by
          unfold Fof
          split
          · exact List.mem_cons_of_mem _ hkc
          · next hμ =>
            obtain ⟨g,t,l,hbl⟩:=hTc
            rcases hτ.nest c g t l hbl with ⟨_,e0⟩ | ⟨_,_,_,_,_,_,e0,_⟩
            · rw [e0] at hkc;cases hkc
            · rw [hμ] at e0;cases e0
        exact Fof_apart hR.mem hτ (hTr b3 hb3) hTc (fun e=>hc (e ▸ hb3)) h3 hkc'
      · omega
  exact ⟨_,_,μ,h,rfl,change.rel hR hτ hq⟩
end
end Go.Proofs.YtigbabjhcihmaaaGreatDoor.Ev
namespace Go.Proofs.YtigbabjhcihmaaaGreatDoor.Ev
open Go Go.RowKit
set_option linter.unusedVariables false
set_option linter.unusedSimpArgs false
theorem flatten_at {α:Type}:∀ (L:List (List α)) (i:Nat),i<L.length→L.flatten=(L.take i).flatten++(L.getD i []++(L.drop (i+1)).flatten)
  | [],i,h=>absurd h (Nat.not_lt_zero _)
  | x :: L,0,h=>by simp
  | x :: L,i+1,h=>by
    have:=flatten_at L i (by simpa using h)
    rw [List.flatten_cons,this,List.take_succ_cons,List.flatten_cons,List.getD_cons_succ,List.drop_succ_cons,List.append_assoc]
theorem flatten_set {α:Type}:∀ (L:List (List α)) (i:Nat) (X:List α),i<L.length→(L.set i X).flatten=(L.take i).flatten++(X++(L.drop (i+1)).flatten)
  | [],i,X,h=>absurd h (Nat.not_lt_zero _)
  | x :: L,0,X,h=>by simp
  | x :: L,i+1,X,h=>by
    have:=flatten_set L i X (by simpa using h)
    rw [List.set_cons_succ,List.flatten_cons,this,List.take_succ_cons,List.flatten_cons,List.drop_succ_cons,List.append_assoc]
theorem nodup_swap {A B C G:List Nat} {n:Nat} (h:(A++(B++C)).Nodup) (hlt:∀ k∈A++(B++C),k<n) (hG:G.Nodup) (hd:∀ k∈G,k∈B∨n≤k):(A++(G++C)).Nodup:=by
  refine nodup_replace h hG fun k hk=>?_
  rw [List.nodup_append] at h
  obtain ⟨h1,h2,h3⟩:=h
  rw [List.nodup_append] at h2
  rcases hd k hk with q | q
  · exact ⟨fun hA=>h3 k hA k (List.mem_append_left _ q) rfl,fun hC=>h2.2.2 k q k hC rfl⟩
  · refine ⟨fun hA=>?_,fun hC=>?_⟩
    · have:=hlt k (List.mem_append_left _ hA);omega
    · have:=hlt k (List.mem_append_right _ (List.mem_append_right _ hC));omega
theorem CellT.mono {w w':World} {c:A} {v:Value} {F:List Nat} (hF:∀ k∈F,w'.heap[k]? = w.heap[k]?) (h:CellT w c v F):CellT w' c v F:=by
  cases c <;> first | exact HoldsT.mono hF h | exact h
theorem getD_set_ne {α:Type} {L:List α} {i j:Nat} {X d:α} (h:j≠i):(L.set i X).getD j d=L.getD j d:=by
  rw [List.getD_eq_getElem?_getD,List.getElem?_set_ne (by omega),← List.getD_eq_getElem?_getD]
theorem getD_set_eq {α:Type} {L:List α} {i:Nat} {X d:α} (h:i<L.length):(L.set i X).getD i d=X:=by
  rw [List.getD_eq_getElem?_getD,List.getElem?_set];simp [h]
section
variable {E:Env} {w0 w:World} {μ:Lie} {bl:List Blk} {τ:Nat→List Nat}
theorem nested_change (hm:Mem E w0 w μ bl) (ht:TreeOk E w μ bl τ) {b g:Nat} {t:Ty} {l:List t.den} (hb:bl[b]? = some (.arr g true true t l)) {i:Nat} (hi:i<l.length) {k cap:Nat} (hμ:μ b=some (k,cap))
    {off:Nat} {e':Ty} {l':List e'.den} (hc:(t.cells true l[i])[off]? = some (.sl true e' l')) :
    ∃ v G,w.cell? ⟨k,i*t.size+off,none⟩=some v∧HoldsT w (.slice e') l' [v] G∧G.Nodup∧(∀ j∈G,j<w.heap.size) ∧
      ∀ (w':World) (l'':List e'.den) (G':List Nat) (y:t.den),Marked G w w'→HoldsT w' (.slice e') l'' [v] G'→G'.Nodup→(∀ j∈G',(j∈G∨w.heap.size≤j)∧j<w'.heap.size) →
        t.ofCells false ((t.cells true l[i]).set off (.sl true e' l''))=some (y,[])→∃ τ',Change E w μ bl τ w' (bl.set b (.arr g true true t (l.set i y))) [b] G τ':=by
  have hTb:Tree bl b:=⟨g,t,l,hb⟩
  rcases ht.nest b g t l hb with ⟨rfl,_⟩ | ⟨k',cap',cells,ty,fz,Fs,h1,h2,h3,h4,h5⟩
  · exact absurd hi (Nat.not_lt_zero _)
  rw [hμ] at h1;cases h1
  obtain ⟨ps,e1,e2,e3⟩:=(h5 i hi).toCells (fr:=true)
  obtain ⟨p,hp,hv⟩:=All2.get e3 hc
  have hv:HoldsT w (.slice e') l' [p.1] p.2:=hv
  have hnd:Fs.flatten.Nodup:=by rw [← h3];exact ht.nodup b hTb
  have hlt:∀ j∈Fs.flatten,j<w.heap.size:=fun j hj=>(ht.new b hTb j (by rw [h3];exact hj)).2.1
  have hoffp:off<ps.length:=by
    rcases Nat.lt_or_ge off ps.length with q | q
    · exact q
    · rw [List.getElem?_eq_none q] at hp;cases hp
  have hG:p.2=(ps.map (·.2)).getD off []:=by
    rw [List.getD_eq_getElem?_getD,List.getElem?_map,hp];rfl
  have hFi:(ps.map (·.2)).flatten.Nodup:=by rw [← e2];exact nodup_getD hnd i
  have hGF:∀ j∈p.2,j∈Fs.getD i []:=fun j hj=>by rw [e2];rw [hG] at hj;exact mem_flatten_getD hj
  have hGτ:∀ j∈p.2,j∈Fs.flatten:=fun j hj=>mem_flatten_getD (hGF j hj)
  have hcell:w.cell? ⟨k,i*t.size+off,none⟩=some p.1:=by
    have:((cells.toList.drop (i*t.size)).take t.size)[off]? = some p.1:=by rw [e1,List.getElem?_map,hp];rfl
    obtain ⟨hj,_⟩:=getElem?_part this
    rw [cell_row h2];exact hj
  refine ⟨p.1,p.2,hcell,hv,by rw [hG];exact nodup_getD hFi off,fun j hj=>hlt j (hGτ j hj),fun w' l'' G' y hmk hT' hnd' hF' hy=>?_⟩
  have hkOwn:Own μ bl k:=⟨b,cap,hμ,tree_mine hTb⟩
  have hkG:k ∉ p.2:=fun hk=>(ht.new b hTb k (by rw [h3];exact hGτ k hk)).2.2 hkOwn
  have hk':w'.heap[k]? = w.heap[k]?:=hmk.block k (hm.lt (mine_alive (tree_mine hTb)) hμ) hkG
  have hcells:CellsT w' ((t.cells true l[i]).set off (.sl true e' l'')) (ps.set off (p.1,G')):=by
    refine All2.of_get (by rw [List.length_set,List.length_set];exact All2.length e3) fun j c q hj hq=>?_
    by_cases ej:j=off
    · subst ej
      rw [List.getElem?_set] at hj hq
      simp only [if_true] at hj hq
      split at hj
      · rw [if_pos hoffp] at hq
        cases hj;cases hq;exact hT'
      · cases hj
    · rw [List.getElem?_set_ne (by omega)] at hj hq
      obtain ⟨q',hq',hr⟩:=All2.get e3 hj
      rw [hq] at hq';cases hq'
      refine CellT.mono (fun n hn=>?_) hr
      have hnj:n∈(ps.map (·.2)).getD j []:=by rw [List.getD_eq_getElem?_getD,List.getElem?_map,hq];exact hn
      have hnF:n∈Fs.flatten:=mem_flatten_getD (i:=i) (by rw [e2];exact mem_flatten_getD hnj)
      refine hmk.block n (hlt n hnF) fun hnG=>?_
      rw [hG] at hnG
      exact ej (nodup_apart hFi j off n hnj hnG)
  obtain ⟨p1,p2,b1,b2,b3⟩:=HoldsT.ofCells t _ _ _ _ hcells hy
  have hp2:p2=[]:=by cases p2 with | nil=>rfl | cons _ _=>exact b3.elim
  subst hp2
  rw [List.append_nil] at b1
  subst b1
  have hvals:(ps.set off (p.1,G')).map (·.1)=ps.map (·.1):=by
    rw [List.map_set]
    refine List.ext_getElem? fun j=>?_
    rw [List.getElem?_set]
    split
    · next ej =>
      subst ej
      rw [if_pos (by rw [List.length_map];exact hoffp),List.getElem?_map,hp];rfl
    · rfl
  rw [hvals,← e1] at b2
  have hFlen:i<Fs.length:=by rw [h4];exact hi
  have hsnd:((ps.set off (p.1,G')).map (·.2))=(ps.map (·.2)).set off G':=by rw [List.map_set]
  rw [hsnd] at b2
  have hpl:off<(ps.map (·.2)).length:=by rw [List.length_map];exact hoffp
  have hmemFi:∀ n∈((ps.map (·.2)).set off G').flatten,n∈Fs.flatten∨(w.heap.size≤n∧n<w'.heap.size):=by
    intro n hn
    rw [flatten_set _ _ _ hpl] at hn
    have hold:n∈(ps.map (·.2)).flatten→n∈Fs.flatten:=fun q=>mem_flatten_getD (i:=i) (by rw [e2];exact q)
    rcases List.mem_append.mp hn with hn | hn
    · exact Or.inl (hold (by rw [flatten_at _ off hpl];exact List.mem_append_left _ hn))
    · rcases List.mem_append.mp hn with hn | hn
      · obtain ⟨q1,q2⟩:=hF' n hn
        rcases q1 with q1 | q1
        · exact Or.inl (hGτ n q1)
        · exact Or.inr ⟨q1,q2⟩
      · exact Or.inl (hold (by rw [flatten_at _ off hpl];exact List.mem_append_right _ (List.mem_append_right _ hn)))
  have hFi':((ps.map (·.2)).set off G').flatten.Nodup:=by
    rw [flatten_set _ _ _ hpl]
    refine nodup_swap (B:=(ps.map (·.2)).getD off []) (n:=w.heap.size) (by rw [← flatten_at _ off hpl];exact hFi) (fun n hn=>?_) hnd' fun n hn=>?_
    · rw [← flatten_at _ off hpl,← e2] at hn
      exact hlt n (mem_flatten_getD hn)
    · rw [← hG];exact (hF' n hn).1
  have hmem:∀ n∈(Fs.set i ((ps.map (·.2)).set off G').flatten).flatten,n∈Fs.flatten∨(w.heap.size≤n∧n<w'.heap.size):=by
    intro n hn
    rw [flatten_set _ _ _ hFlen] at hn
    rcases List.mem_append.mp hn with hn | hn
    · exact Or.inl (by rw [flatten_at _ i hFlen];exact List.mem_append_left _ hn)
    · rcases List.mem_append.mp hn with hn | hn
      · exact hmemFi n hn
      · exact Or.inl (by rw [flatten_at _ i hFlen];exact List.mem_append_right _ (List.mem_append_right _ hn))
  have hblt:b<bl.length:=by
    rcases Nat.lt_or_ge b bl.length with q | q
    · exact q
    · rw [List.getElem?_eq_none q] at hb;cases hb
  refine ⟨fun _=>(Fs.set i ((ps.map (·.2)).set off G').flatten).flatten,hmk,fun n hn=>⟨b,List.mem_singleton_self _,hTb,?_⟩,by simp,fun c hc=>?_,fun c hc=>?_,fun c hc n hn=>?_,fun c hc=>?_,fun c hc c' hc' hne=>?_,fun c hc d hd hTd n hn hnd2=>?_⟩
  · unfold Fof;rw [hμ];exact List.mem_cons_of_mem _ (by rw [h3];exact hGτ n hn)
  · exact getElem?_set_ne' (by simpa using hc)
  · obtain rfl:c=b:=by simpa using hc
    refine ⟨g,t,l,l.set i y,hb,getElem?_set_self hb,by simp,?_,fun k2 cap2 hk2=>?_⟩
    · refine Or.inr ⟨k,cap,cells,ty,fz,_,hμ,hk'.trans h2,rfl,by simp [h4],fun j hj=>?_⟩
      by_cases ej:j=i
      · subst ej
        rw [getD_set_eq hFlen]
        simpa using b2
      · rw [getD_set_ne ej]
        have hj':j<l.length:=by simpa using hj
        rw [List.getElem_set_ne (fun q=>ej q.symm)]
        refine (h5 j hj').mono fun n hn=>?_
        have hnF:n∈Fs.flatten:=mem_flatten_getD hn
        refine hmk.block n (hlt n hnF) fun hnG=>ej ?_
        exact nodup_apart hnd j i n hn (hGF n hnG)
    · rw [hμ] at hk2;cases hk2
      rcases hm.blocks c _ hb with ⟨q1,_⟩ | ⟨k3,cap3,vals,ty3,fz3,q1,q2,q3,q4,q5,q6,q7⟩
      · rw [hμ] at q1;cases q1
      · rw [hμ] at q1;cases q1
        exact ⟨vals,ty3,fz3,hk'.trans q3,q4,by simpa using q5,q6⟩
  · obtain rfl:c=b:=by simpa using hc
    rcases hmem n hn with q | ⟨q1,q2⟩
    · obtain ⟨n1,n2,n3⟩:=ht.new c hTb n (by rw [h3];exact q)
      exact ⟨n1,Nat.lt_of_lt_of_le n2 hmk.size,n3⟩
    · refine ⟨E.hN n (Nat.le_trans hm.big q1),q2,?_⟩
      rintro ⟨b2,c2,hb2,hm2⟩
      have:=hm.lt (mine_alive hm2) hb2
      omega
  · rw [flatten_set _ _ _ hFlen]
    refine nodup_swap (B:=Fs.getD i []) (n:=w.heap.size) (by rw [← flatten_at _ i hFlen];exact hnd) (fun n hn=>?_) hFi' fun n hn=>?_
    · rw [← flatten_at _ i hFlen] at hn;exact hlt n hn
    · rw [flatten_set _ _ _ hpl] at hn
      have hold:n∈(ps.map (·.2)).flatten→n∈Fs.getD i []:=fun q=>by rw [e2];exact q
      rcases List.mem_append.mp hn with hn | hn
      · exact Or.inl (hold (by rw [flatten_at _ off hpl];exact List.mem_append_left _ hn))
      · rcases List.mem_append.mp hn with hn | hn
        · rcases (hF' n hn).1 with q | q
          · exact Or.inl (hGF n q)
          · exact Or.inr q
        · exact Or.inl (hold (by rw [flatten_at _ off hpl];exact List.mem_append_right _ (List.mem_append_right _ hn)))
  · have h1:c=b:=by simpa using hc
    have h2:c'=b:=by simpa using hc'
    exact absurd (h1.trans h2.symm) hne
  · have hdb:d≠b:=by simpa using hd
    rcases hmem n hn with q | ⟨q1,q2⟩
    · exact ht.apart d b hTd hTb hdb n hnd2 (by rw [h3];exact q)
    · have:=(ht.new d hTd n hnd2).2.1;omega
end
end Go.Proofs.YtigbabjhcihmaaaGreatDoor.Ev
namespace Go.Proofs.YtigbabjhcihmaaaGreatDoor.Ev
open Go Go.RowKit
set_option linter.unusedVariables false
set_option linter.unusedSimpArgs false
variable {ρ:Type}
inductive FV where
  | un | int (n:Int) | bool (c:Bool) | str (s:ByteArray) | row | idx | next | len | addr (off:Nat) | nest (off:Nat)
structure FSt where
  tmps:List FV
  el:List A
structure MCx where
  cx:Cx
  mark:FuncId→Option MSpec
  e:Ty
def FSt.get (st:FSt):Operand→FV
  | .tmp t=>st.tmps.getD t .un
  | .const (.int .i64 n)=>.int n
  | _=>.un
def FSt.put (st:FSt) (d:Option Tmp) (v:FV):FSt :=
  match d with
  | some d=>{ st with tmps:=st.tmps.set d v }
  | none=>st
def FV.still:FV→FV
  | .nest _=>.un
  | v=>v
def FSt.still (st:FSt):FSt:={ st with tmps:=st.tmps.map FV.still }
def isOne:Operand→Bool
  | .const (.int .i64 n)=>decide (n=1)
  | _=>false
def evFBin (more:Bool) (op:BinOp) (x y:FV) (one:Bool) (K:FV→Option ρ):Option ρ :=
  match x,y with
  | .int a,.int b=>match op with
    | .add=>K (.int (wr .i64 (a+b)))
    | .rem=>bif decide (b=0) then none else K (.int (a.tmod b))
    | .eql=>K (.bool (decide (a=b)))
    | _=>none
  | .idx,.int b=>match op with
    | .add=>bif one then K .next else none
    | _=>none
  | .idx,.len=>match op with
    | .lss=>K (.bool more)
    | _=>none
  | _,_=>none
def evFStore (ty:Ty) (v:FV) (c:Option A) (K:A→Option ρ):Option ρ :=
  match ty,v,c with
  | .int .i64,.int n,some (.int .i64 _)=>K (.int .i64 n)
  | .bool,.bool b,some (.bool _)=>K (.bool b)
  | .str,.str s,some (.str _)=>K (.str s)
  | _,_,_=>none
def textOf (s:CSpec) (n:Int):Option ByteArray :=
  match s with
  | ⟨[.int .i64],[(.str,false)],_,sem⟩=>sem (n,())
  | _=>none
def evFMark (m:MSpec) (c:Option A) (k:Int) (K:A→Int→Option ρ):Option ρ :=
  match c with
  | some (.sl true e l)=>match Ty.eq? (.slice e) m.t with
    | some ⟨h⟩=>(m.sem (cast (congrArg Ty.den h) l) k).bind fun y=>K (.sl true e (cast (congrArg Ty.den h.symm) y.1)) y.2
    | none=>none
  | _=>none
def evFOp (M:MCx) (more:Bool) (o:Oper) (st:FSt) (K:FV→FSt→Option ρ):Option ρ :=
  match o.op with
  | .move x | .assign x=>match st.get x with
    | .un=>none
    | .nest _=>none
    | v=>K v st
  | .binOp op t x y _=>evFBin more op (st.get x) (st.get y) (isOne y) fun v=>K v st
  | .indexAddr t x i=>match st.get x,st.get i with
    | .row,.idx=>bif more&&sliceTy M.cx t M.e then K (.addr 0) st else none
    | _,_=>none
  | .fieldAddr t x f=>match st.get x,M.cx.ty t with
    | .addr off,some u=>match u.field f with
      | some (d,_)=>K (.addr (off+d)) st
      | none=>none
    | _,_=>none
  | .load t ad=>match st.get ad,M.cx.ty t with
    | .addr off,some (.slice e')=>match st.el[off]? with
      | some (.sl true _ _)=>bif more then K (.nest off) st else none
      | _=>none
    | _,_=>none
  | .store t ad x=>match st.get ad,M.cx.ty t with
    | .addr off,some ty=>bif more then evFStore ty (st.get x) st.el[off]? (fun c=>K .un { st.still with el:=st.el.set off c }) else none
    | _,_=>none
  | .call c=>match c.callee with
    | .builtin .len=>match c.args.toList,c.argTypes.toList with
      | [x],[t]=>match st.get x with
        | .row=>bif sliceTy M.cx t M.e then K .len st else none
        | _=>none
      | _,_=>none
    | .value (.func f)=>match M.mark f with
      | some m=>match c.args.toList with
        | [x,y]=>match st.get x,st.get y with
          | .nest off,.int k=>bif more then evFMark m st.el[off]? k (fun c k'=>K (.int k') { st.still with el:=st.el.set off c }) else none
          | _,_=>none
        | _=>none
      | none=>match M.cx.call f with
        | some s=>match c.args.toList with
          | [x]=>match st.get x with
            | .int n=>(textOf s n).bind fun r=>K (.str r) st.still
            | _=>none
          | _=>none
        | none=>none
    | _=>none
  | _=>none
def evFOps (M:MCx) (more:Bool):List Oper→FSt→(FSt→Option ρ)→Option ρ
  | [],st,K=>K st
  | o :: r,st,K=>match o.guard with
    | none=>evFOp M more o st fun v st=>evFOps M more r (st.put o.dst v) K
    | some _=>none
def evFCode (M:MCx) (more:Bool):Code→FSt→(Ex→FSt→Option ρ)→Option ρ
  | .skip,st,K=>K .normal st
  | .region _ ops draw,st,K=>bif draw then none else evFOps M more ops.toList st (K .normal)
  | .seq a b,st,K=>evFCode M more a st fun e st=>match e with
    | .normal=>evFCode M more b st K
    | e=>K e st
  | .cond (.tmp t) a b,st,K=>match st.tmps.getD t .un with
    | .bool c=>bif c then evFCode M more a st K else evFCode M more b st K
    | _=>none
  | .block id a,st,K=>evFCode M more a st fun e st=>match e with
    | .exit i=>bif i == id then K .normal st else K (.exit i) st
    | e=>K e st
  | .exit id,st,K=>K (.exit id) st
  | .ret,st,K=>K .ret st
  | _,_,_=>none
def FV.toV (i n:Nat):FV→V
  | .un=>V.undef
  | .int n=>.at (.int .i64 n)
  | .bool c=>.at (.bool c)
  | .str s=>.at (.str s)
  | .row=>.at (.os 0 0)
  | .idx=>.at (.int .i64 (i:Int))
  | .next=>.at (.int .i64 (wr .i64 ((i:Int)+1)))
  | .len=>.at (.int .i64 (n:Int))
  | .addr off=>.at (.ep 0 0 i off)
  | .nest _=>V.undef
def FSt.real (st:FSt) (i:Nat) {e:Ty} (L:List e.den):St:=⟨st.tmps.map (FV.toV i L.length),[.arr 0 true true e L],[]⟩
def NestAt (w:World) (m0:Option (Nat × Nat)) (e:Ty) (i off:Nat) (el:List A) (v:Value):Prop :=
  ∃ k c,m0=some (k,c)∧w.cell? ⟨k,i*e.size+off,none⟩=some v∧∃ e' l',el[off]? = some (.sl true e' l')
structure FRel (E:Env) (w0:World) (m0:Option (Nat × Nat)) (e:Ty) (L:List e.den) (i:Nat) (more:Bool) (μ:Lie) (st:FSt) (a:Act) (w:World):Prop where
  rel:Rel E w0 μ (st.real i L) a w
  lie:μ 0=m0
  foc:more=true→∃ h:i<L.length,st.el=e.cells true L[i]
  nest:∀ (s off:Nat),st.tmps[s]? = some (FV.nest off)→∃ v,a.tmps[s]? = some v∧NestAt w m0 e i off st.el v
  lim:more=decide (i<L.length)
def FVal (E:Env) (w:World) (m0:Option (Nat × Nat)) (e:Ty) (L:List e.den) (i:Nat) (μ:Lie) (el:List A) (x:FV) (v:Value):Prop :=
  RepV E w μ [.arr 0 true true e L] (x.toV i L.length) v∧∀ off:Nat,x=FV.nest off→NestAt w m0 e i off el v
section
variable {P:Program} {M:MCx} {E:Env} {w0 w:World} {m0:Option (Nat × Nat)} {L:List M.e.den} {i:Nat} {more:Bool} {μ:Lie} {st:FSt} {a:Act} {o:Oper}
theorem FSt.real_put (st:FSt) (i:Nat) {e:Ty} (L:List e.den) (d:Option Tmp) (v:FV):(st.put d v).real i L=(st.real i L).put d (v.toV i L.length):=by
  cases d with
  | none=>rfl
  | some d=>simp only [FSt.put,FSt.real,St.put,List.map_set]
theorem FRel.put (h:FRel E w0 m0 M.e L i more μ st a w) (d:Option Tmp) {x:FV} {v:Value} (hx:FVal E w m0 M.e L i μ st.el x v):FRel E w0 m0 M.e L i more μ (st.put d x) (a.put d v) w:=by
  refine ⟨by rw [FSt.real_put];exact h.rel.put d hx.1,h.lie,fun hm=>?_,fun s off hs=>?_,h.lim⟩
  · obtain ⟨hi,he⟩:=h.foc hm
    exact ⟨hi,by cases d <;> exact he⟩
  · cases d with
    | none=>exact h.nest s off hs
    | some d =>
      have hlen:(st.tmps.map (FV.toV i L.length)).length=a.tmps.toList.length:=All2.length h.rel.slots
      have hlen:st.tmps.length=a.tmps.size:=by simpa using hlen
      simp only [FSt.put] at hs ⊢
      rw [List.getElem?_set] at hs
      simp only [Act.put]
      split at hs
      · next e1 =>
        subst e1
        split at hs
        · next hlt =>
          cases hs
          refine ⟨v,?_,hx.2 off rfl⟩
          rw [Array.getElem?_setIfInBounds]
          simp;omega
        · cases hs
      · next e1 =>
        obtain ⟨u,h1,h2⟩:=h.nest s off hs
        exact ⟨u,by rw [Array.getElem?_setIfInBounds_ne (by omega)];exact h1,h2⟩
theorem FSt.real_get (st:FSt) (i:Nat) {e:Ty} (L:List e.den) (x:Operand):(st.get x ≠ .un→(st.real i L).get x=(st.get x).toV i L.length):=by
  intro hne
  cases x with
  | tmp t =>
    simp only [FSt.get,St.get,FSt.real]
    rw [List.getD_eq_getElem?_getD,List.getD_eq_getElem?_getD,List.getElem?_map]
    cases st.tmps[t]? <;> rfl
  | const v =>
    cases v with
    | int k n=>cases k <;> first | rfl | (simp only [FSt.get] at hne;exact absurd rfl hne)
    | _=>simp only [FSt.get] at hne;exact absurd rfl hne
  | global g=>simp only [FSt.get] at hne;exact absurd rfl hne
  | func f=>simp only [FSt.get] at hne;exact absurd rfl hne
theorem FRel.still (h:FRel E w0 m0 M.e L i more μ st a w):FRel E w0 m0 M.e L i more μ st.still a w:=by
  have:st.still.real i L=st.real i L:=by
    simp only [FSt.still,FSt.real,List.map_map]
    congr 1
    refine List.map_congr_left fun x _=>?_
    cases x <;> rfl
  refine ⟨by rw [this];exact h.rel,h.lie,h.foc,fun s off hs=>?_,h.lim⟩
  simp only [FSt.still,List.getElem?_map] at hs
  cases ht:st.tmps[s]? with
  | none=>rw [ht] at hs;cases hs
  | some x=>rw [ht] at hs;cases x <;> cases hs
def FOk (P:Program) (M:MCx) (E:Env) (w0:World) (m0:Option (Nat × Nat)) (L:List M.e.den) (i:Nat) (more:Bool) (a:Act) (w:World) (o:Oper) (K:FV→FSt→Option ρ) (r:ρ):Prop :=
  ∀ (next:Act→World→Prop) (Q:Exit→Act→World→Prop),
    (∀ x st' μ' (L':List M.e.den) v w',K x st'=some r→FVal E w' m0 M.e L' i μ' st'.el x v→FRel E w0 m0 M.e L' i more μ' st' a w'→L'.length=L.length→(∀ j,j≠i→L'[j]? = L[j]?)→next (a.put o.dst v) w')→o.wp P a w next Q
theorem FOk.pure {K:FV→FSt→Option ρ} {r:ρ} (h:FRel E w0 m0 M.e L i more μ st a w) (hcx:M.cx.ok P) {x:FV} (hK:K x st=some r) (hn:∀ off:Nat,x≠FV.nest off) (hp:evPure M.cx o (st.real i L) (fun v=>some v)=some (x.toV i L.length)):FOk P M E w0 m0 L i more a w o K r:=by
  intro next Q hnext
  obtain ⟨X,v,h1,h2,h3⟩:=evPure_sound hcx h.rel hp
  cases h1
  unfold Oper.wp
  rw [h3]
  exact hnext x st μ L v w hK ⟨h2,fun off e=>absurd e (hn off)⟩ h rfl (fun _ _=>rfl)
theorem wr_small {n:Int} (h0:-9223372036854775808≤n) (h1:n<9223372036854775808):wr .i64 n=n:=by
  show wrap64 n=n
  unfold wrap64
  omega
end
end Go.Proofs.YtigbabjhcihmaaaGreatDoor.Ev
namespace Go.Proofs.YtigbabjhcihmaaaGreatDoor.Ev
open Go Go.RowKit
set_option linter.unusedVariables false
set_option linter.unusedSimpArgs false
variable {ρ:Type}
def Ty.noAdr:Ty→Bool
  | .adr=>false
  | .pair a b=>a.noAdr&&b.noAdr
  | .struct b=>b.noAdr
  | _=>true
theorem ofCells_cells (need:Bool):∀ (t:Ty) (x:t.den) (rest:List A),t.noAdr=true→t.ofCells need (t.cells true x++rest)=some (x,rest)
  | .int k,n,rest,_=>by simp [Ty.cells,Ty.ofCells]
  | .bool,b,rest,_=>rfl
  | .str,s,rest,_=>rfl
  | .err,b,rest,_=>rfl
  | .adr,b,rest,h=>by cases h
  | .slice e,l,rest,_=>by
    have h:Ty.eq? e e=some ⟨rfl⟩:=by
      have key:∀ t:Ty,∃ p,Ty.eq? t t=some p:=by
        intro t
        induction t with
        | int k=>exact ⟨_,by simp [Ty.eq?];rfl⟩
        | bool=>exact ⟨_,rfl⟩
        | str=>exact ⟨_,rfl⟩
        | err=>exact ⟨_,rfl⟩
        | adr=>exact ⟨_,rfl⟩
        | slice e ih=>obtain ⟨p,hp⟩:=ih;exact ⟨⟨rfl⟩,by simp only [Ty.eq?,hp]⟩
        | pair a b iha ihb=>obtain ⟨p,hp⟩:=iha;obtain ⟨q,hq⟩:=ihb;exact ⟨⟨rfl⟩,by simp only [Ty.eq?,hp,hq]⟩
        | struct b ih=>obtain ⟨p,hp⟩:=ih;exact ⟨⟨rfl⟩,by simp only [Ty.eq?,hp]⟩
      obtain ⟨p,hp⟩:=key e
      rw [hp]
    simp [Ty.cells,Ty.ofCells,h]
  | .pair a b,x,rest,hn=>by
    simp only [Ty.noAdr,Bool.and_eq_true] at hn
    simp only [Ty.cells,Ty.ofCells,List.append_assoc]
    rw [ofCells_cells need a x.1 _ hn.1]
    simp only
    rw [ofCells_cells need b x.2 _ hn.2]
  | .struct b,x,rest,hn=>by
    simp only [Ty.cells,Ty.ofCells]
    exact ofCells_cells need b x rest hn
inductive Kin:A→A→Prop where
  | int (k:IntKind) (m n:Int):Kin (.int k m) (.int k n)
  | bool (b c:Bool):Kin (.bool b) (.bool c)
  | str (s u:ByteArray):Kin (.str s) (.str u)
  | sl (f:Bool) (e:Ty) (l m:List e.den):Kin (.sl f e l) (.sl f e m)
theorem cells_set (fr:Bool):∀ (t:Ty) (x:t.den) (off:Nat) (c c':A),(t.cells fr x)[off]? = some c→Kin c c'→∃ y,t.cells fr y=(t.cells fr x).set off c'
  | .int k,n,off,c,c',h,hk=>by
    cases off with
    | succ off=>simp [Ty.cells] at h
    | zero=>simp only [Ty.cells,List.getElem?_cons_zero,Option.some.injEq] at h;subst h;cases hk;exact ⟨_,rfl⟩
  | .bool,n,off,c,c',h,hk=>by
    cases off with
    | succ off=>simp [Ty.cells] at h
    | zero=>simp only [Ty.cells,List.getElem?_cons_zero,Option.some.injEq] at h;subst h;cases hk;exact ⟨_,rfl⟩
  | .str,n,off,c,c',h,hk=>by
    cases off with
    | succ off=>simp [Ty.cells] at h
    | zero=>simp only [Ty.cells,List.getElem?_cons_zero,Option.some.injEq] at h;subst h;cases hk;exact ⟨_,rfl⟩
  | .adr,n,off,c,c',h,hk=>by
    cases off with
    | succ off=>simp [Ty.cells] at h
    | zero=>simp only [Ty.cells,List.getElem?_cons_zero,Option.some.injEq] at h;subst h;cases hk
  | .err,n,off,c,c',h,hk=>by
    cases off with
    | succ off=>simp [Ty.cells] at h
    | zero=>simp only [Ty.cells,List.getElem?_cons_zero,Option.some.injEq] at h;subst h;cases hk
  | .slice e,l,off,c,c',h,hk=>by
    cases off with
    | succ off=>simp [Ty.cells] at h
    | zero=>simp only [Ty.cells,List.getElem?_cons_zero,Option.some.injEq] at h;subst h;cases hk;exact ⟨_,rfl⟩
  | .pair a b,x,off,c,c',h,hk=>by
    simp only [Ty.cells] at h ⊢
    have hl:=cells_length fr a x.1
    by_cases hlt:off<a.size
    · rw [List.getElem?_append_left (by omega)] at h
      obtain ⟨y,hy⟩:=cells_set fr a x.1 off c c' h hk
      exact ⟨(y,x.2),by rw [List.set_append_left _ _ (by omega),hy]⟩
    · rw [List.getElem?_append_right (by omega)] at h
      obtain ⟨y,hy⟩:=cells_set fr b x.2 _ c c' h hk
      exact ⟨(x.1,y),by rw [List.set_append_right _ _ (by omega),hy]⟩
  | .struct b,x,off,c,c',h,hk=>by
    simp only [Ty.cells] at h ⊢
    exact cells_set fr b x off c c' h hk
theorem cells_view (fr:Bool) (t:Ty) (x:t.den) (bl:List Blk):(t.cells fr x).map (A.view bl)=t.cells fr x:=by
  refine (List.map_congr_left (g:=id) fun c hc=>?_).trans (List.map_id _)
  obtain ⟨h1,h2⟩:=cells_kind fr t x c hc
  obtain ⟨h3,h4⟩:=cells_kind2 fr t x c hc
  cases c with
  | os b g=>exact absurd rfl (h1 b g)
  | nil u=>exact absurd rfl (h3 u)
  | old u l=>exact absurd rfl (h4 u l)
  | _=>rfl
section
variable {P:Program} {M:MCx} {E:Env} {w0 w:World} {m0:Option (Nat × Nat)} {L:List M.e.den} {i:Nat} {more:Bool} {μ:Lie} {st:FSt} {a:Act} {o:Oper}
theorem call_run {f:FuncId} {c:Call} (ho:o.op = .call c) (hfn:∃ fn,P.funcs[f]? = some fn∧fn.name ≠ "runtime.NumGoroutine" ∧ fn.body.isSome=true) (hc:c.callee = .value (.func f)) :
    (execOp a.eval o).run P w = .ok (.enter f (c.args.map a.eval)) w:=by
  obtain ⟨fn,h1,h2,h3⟩:=hfn
  have hb:¬ fn.body=none:=by intro hq;rw [hq] at h3;cases h3
  have hx:a.eval (.func f) = .func (.func f) #[] #[]:=rfl
  unfold execOp
  simp only [ho]
  simp [resolve,hc,hx,Deferred.ofValue,invoke,callFunc,h1,h2,hb]
theorem get_nest {x:Operand} {off:Nat} (h:st.get x = .nest off):∃ s,x = .tmp s∧st.tmps[s]? = some (.nest off):=by
  cases x with
  | tmp t =>
    refine ⟨t,rfl,?_⟩
    simp only [FSt.get] at h
    rw [List.getD_eq_getElem?_getD] at h
    cases hq:st.tmps[t]? with
    | none=>rw [hq] at h;cases h
    | some y=>rw [hq] at h;exact congrArg some h
  | const v =>
    cases v with
    | int k n=>cases k <;> cases h
    | _=>cases h
  | global g=>cases h
  | func f=>cases h
theorem FRel.addr (h:FRel E w0 m0 M.e L i more μ st a w) {x:Operand} {off:Nat} (hx:st.get x = .addr off):i<L.length∧∃ k c,m0=some (k,c)∧a.eval x = .pointer (some ⟨k,i*M.e.size+off,none⟩):=by
  have h1:=h.rel.get x
  rw [FSt.real_get st i L x (by rw [hx];simp),hx] at h1
  obtain ⟨hi,k,c,h2,h3⟩:=(h1.2 0 true true M.e L rfl).2 rfl
  exact ⟨hi,k,c,by rw [← h.lie];exact h2,h3⟩
theorem FRel.int_of (h:FRel E w0 m0 M.e L i more μ st a w) {x:Operand} {n:Int} (hx:st.get x = .int n):a.eval x = .int .i64 n:=by
  have h1:=h.rel.get x
  rw [FSt.real_get st i L x (by rw [hx];simp),hx] at h1
  exact h1
theorem still_real (st:FSt) (i:Nat) {e:Ty} (L:List e.den):st.still.real i L=st.real i L:=by
  simp only [FSt.still,FSt.real,List.map_map]
  congr 1
  refine List.map_congr_left fun x _=>?_
  cases x <;> rfl
theorem no_nest {s off:Nat} (h:st.still.tmps[s]? = some (.nest off)):False:=by
  simp only [FSt.still,List.getElem?_map] at h
  cases ht:st.tmps[s]? with
  | none=>rw [ht] at h;cases h
  | some x=>rw [ht] at h;cases x <;> cases h
theorem real_quiet (st:FSt) (i:Nat) {e:Ty} (L:List e.den):(st.real i L).tmps.map V.quiet=(st.real i L).tmps:=by
  simp only [FSt.real,List.map_map]
  refine List.map_congr_left fun x _=>?_
  cases x <;> rfl
theorem fok_store (hna:M.e.noAdr=true) (hcx:M.cx.ok P) (h:FRel E w0 m0 M.e L i more μ st a w) {t:TypeId} {ad x:Operand} (ho:o.op = .store t ad x) {ty:Ty} (ht:M.cx.ty t=some ty) {off:Nat} (ha:st.get ad = .addr off) (hm:more=true)
    {c c':A} (hx:(st.real i L).get x = .at c') (hcu:c' ≠ .undef) (hro:rowsOf [c']=[]) (hmv:moves [.arr 0 true true M.e L] [c']=true) (hsz:ty.size=1) (hc:st.el[off]? = some c) (hk:Kin c c')
    {K:FV→FSt→Option ρ} {r:ρ} (hK:K .un { st.still with el:=st.el.set off c' }=some r):FOk P M E w0 m0 L i more a w o K r:=by
  obtain ⟨hi,hel⟩:=h.foc hm
  rw [hel] at hc
  obtain ⟨y,hy⟩:=cells_set true M.e L[i] off c c' hc hk
  have hoff:off<(M.e.cells true L[i]).length:=by
    rcases Nat.lt_or_ge off (M.e.cells true L[i]).length with q | q
    · exact q
    · rw [List.getElem?_eq_none q] at hc;cases hc
  have hget:L.getD i M.e.zero=L[i]:=by simp [List.getD_eq_getElem?_getD,hi]
  have hfull:((st.real i L).get x).full=some [c']:=by
    rw [hx]
    cases c' <;> first | rfl | exact absurd rfl hcu
  have hput:putIn M.e (st.real i L).bl (writeAt (M.e.cells (true||M.e.flat) (L.getD i M.e.zero)) off [c'])=some y:=by
    unfold putIn
    rw [hget]
    have h1:writeAt (M.e.cells (true||M.e.flat) L[i]) off [c']=M.e.cells true y:=by
      rw [Bool.true_or,hy];rfl
    rw [h1,cells_view]
    have h2:=ofCells_cells false M.e y [] hna
    rw [List.append_nil] at h2
    rw [h2]
  have hfr:freezeAll (st.real i L) (rowsOf [c'])=some (st.real i L):=by rw [hro];rfl
  have hadr:(st.real i L).get ad = .at (.ep 0 0 i off):=by rw [FSt.real_get st i L ad (by rw [ha];simp),ha];rfl
  have eff:=eff_store_elem (own2:=true) (K:=fun v s=>some (v,s)) (r:=(V.undef,{ st.real i L with bl:=[.arr 0 true true M.e (L.set i y)] })) hcx h.rel ho ht hfull (by rw [hsz];rfl) hadr rfl rfl
    (by show off+1≤M.e.size;have:=cells_length true M.e L[i];omega) hput hfr rfl (by
      have:(true&&moves (st.real i L).bl [c'])=true:=by rw [Bool.true_and];exact hmv
      rw [this];rfl)
  intro next Q hnext
  obtain ⟨X,st',μ',v,w',h1,h2,h3,h4,h5,h6⟩:=eff
  cases h1
  have hev:=h5.evo.arr 0 0 true true M.e (L.set i y) (by show 0<1;omega) rfl
  obtain ⟨g',own',nf',l',q1,q2,q3⟩:=hev
  obtain rfl:g'=0:=by omega
  have hlie:μ' 0=m0:=by rw [(q3 rfl).2];exact h.lie
  have hlen:(L.set i y).length=L.length:=by simp
  have hrel:FRel E w0 m0 M.e (L.set i y) i more μ' { st.still with el:=st.el.set off c' } a w':=by
    refine ⟨?_,hlie,fun _=>⟨by rw [hlen];exact hi,by rw [List.getElem_set_self,hel];exact hy.symm⟩,fun s off' hs=>(no_nest hs).elim,by rw [hlen];exact h.lim⟩
    have:({ st.still with el:=st.el.set off c' }:FSt).real i (L.set i y)={ st.real i L with bl:=[.arr 0 true true M.e (L.set i y)] }:=by
      have h1:=still_real st i L
      simp only [FSt.real,hlen] at h1 ⊢
      have h1:=congrArg St.tmps h1
      simp only at h1
      rw [h1]
    rw [this];exact h3
  unfold Oper.wp
  have hnx:next (a.put o.dst v) w'→True:=fun _=>trivial
  rcases h6 with h6 | ⟨h6,_⟩
  · rw [h6]
    exact hnext .un _ μ' _ v w' hK ⟨trivial,fun _ e=>by cases e⟩ hrel hlen fun j hj=>by rw [List.getElem?_set_ne (by omega)]
  · rw [h6]
    exact hnext .un _ μ' _ undef w' hK ⟨trivial,fun _ e=>by cases e⟩ hrel hlen fun j hj=>by rw [List.getElem?_set_ne (by omega)]
theorem fok_load (hcx:M.cx.ok P) (h:FRel E w0 m0 M.e L i more μ st a w) {t:TypeId} {ad:Operand} (ho:o.op = .load t ad) {e':Ty} (ht:M.cx.ty t=some (.slice e')) {off:Nat} (ha:st.get ad = .addr off) (hm:more=true)
    {u:Ty} {l:List u.den} (hc:st.el[off]? = some (.sl true u l)) {K:FV→FSt→Option ρ} {r:ρ} (hK:K (.nest off) st=some r):FOk P M E w0 m0 L i more a w o K r:=by
  obtain ⟨hi,hel⟩:=h.foc hm
  obtain ⟨_,k,cap,hk,hv⟩:=h.addr ha
  obtain ⟨τ,hτ⟩:=h.rel.tree
  have hc':=hc
  rw [hel] at hc'
  obtain ⟨v,G,h1,_⟩:=nested_change h.rel.mem hτ (b:=0) (g:=0) (t:=M.e) (l:=L) rfl hi (h.lie.trans hk) hc'
  intro next Q hnext
  have hrun:(execOp a.eval o).run P w = .ok (.value v) w:=by
    unfold execOp
    simp only [ho]
    refine runsTo_of ?_
    rw [hv]
    show ((Instr.sureAddr _ >>= fun ad=>loadVar t ad):Sem Value).run P w=_
    simp only [Instr.sureAddr,Sem.run_bind,Sem.run_pure,Result.andThen_ok]
    exact run_loadVar (hcx.ty t _ ht) (vs:=[v]) rfl (fun j c hj=>by
      cases j with
      | zero=>simp only [List.getElem?_cons_zero,Option.some.injEq] at hj;subst hj;exact h1
      | succ j=>simp at hj)
  unfold Oper.wp
  rw [hrun]
  refine hnext (.nest off) st μ L v w hK ⟨trivial,fun off' e=>?_⟩ h rfl fun _ _=>rfl
  cases e
  exact ⟨k,cap,hk,h1,u,l,hc⟩
theorem fok_text (hcx:M.cx.good P E.G) (h:FRel E w0 m0 M.e L i more μ st a w) {c:Call} (ho:o.op = .call c) {f:FuncId} (hf:c.callee = .value (.func f)) {s:CSpec} (hs:M.cx.call f=some s) {x:Operand} (hx:c.args.toList=[x]) {n:Int} (hn:st.get x = .int n)
    {t:ByteArray} (htx:textOf s n=some t) {K:FV→FSt→Option ρ} {r:ρ} (hK:K (.str t) st.still=some r):FOk P M E w0 m0 L i more a w o K r:=by
  have hok:=hcx.call f s hs
  have hev:=h.int_of hn
  have hargs:c.args.map a.eval=#[.int .i64 n]:=by
    apply Array.ext'
    rw [Array.toList_map,hx]
    simp [hev]
  unfold textOf at htx
  split at htx
  case h_2=>cases htx
  next fr sem =>
  intro next Q hnext
  unfold Oper.wp
  rw [call_run ho hok.fn hf,Oper.upon_enter,hargs]
  refine (hok.calls w (h.rel.mem.start w h.rel.mem.below) (fun _=>False) [.int .i64 n] (n,()) t ⟨rfl,trivial⟩ htx).mono fun e w' hp=>?_
  cases e with
  | panicked c=>exact hp.elim
  | outgrown=>exact hp.elim
  | returned v =>
  obtain ⟨hb,us,ms,rfl,_,hres,_⟩:=hp
  obtain ⟨v,rfl⟩:∃ v,us=[v]:=by
    cases us with
    | nil=>simp only [ResHold] at hres
    | cons v us=>cases us with
      | nil=>exact ⟨v,rfl⟩
      | cons _ _=>simp only [ResHold] at hres
  have hres:ms=[]∧ValHolds w' _ .str t v:=hres
  have hv:v = .string t:=by
    have:=hres.2
    have this:[v]=[Value.string t]:=this
    cases this;rfl
  subst hv
  have hrel:FRel E w0 m0 M.e L i more μ st.still a w':=by
    have h':=h.still
    refine ⟨⟨(h'.rel.mem.world hb).1,All2.imp (fun _ _ hx=>(h'.rel.mem.world hb).2.repV hx) h'.rel.slots,h'.rel.defers,h'.rel.tree.world h'.rel.mem hb⟩,h.lie,h'.foc,fun s off hs=>(no_nest hs).elim,h.lim⟩
  exact hnext (.str t) _ μ L _ w' hK ⟨rfl,fun _ e=>by cases e⟩ hrel rfl fun _ _=>rfl
theorem fok_mark (hna:M.e.noAdr=true) (h:FRel E w0 m0 M.e L i more μ st a w) {c:Call} (ho:o.op = .call c) {f:FuncId} (hf:c.callee = .value (.func f)) {m:MSpec} (hmk:m.ok P f) {x y:Operand} (hxy:c.args.toList=[x,y]) {off:Nat} {n:Int} (hx:st.get x = .nest off) (hy:st.get y = .int n) (hm:more=true)
    {K:FV→FSt→Option ρ} {r:ρ} (hK:evFMark m st.el[off]? n (fun c k'=>K (.int k') { st.still with el:=st.el.set off c })=some r):FOk P M E w0 m0 L i more a w o K r:=by
  obtain ⟨hi,hel⟩:=h.foc hm
  unfold evFMark at hK
  split at hK
  case h_2=>cases hK
  next u l hc =>
  split at hK
  case h_2=>cases hK
  next hp _ =>
  obtain ⟨mt,msem⟩:=m
  simp only at hp
  subst hp
  simp only [cast_eq] at hK
  cases hsem:msem l n with
  | none=>rw [hsem] at hK;cases hK
  | some z =>
  rw [hsem] at hK
  simp only [Option.bind_some] at hK
  obtain ⟨s,rfl,hs⟩:=get_nest hx
  obtain ⟨v,hv,k,cap,hk,hcell,_⟩:=h.nest s off hs
  obtain ⟨τ,hτ⟩:=h.rel.tree
  rw [hel] at hc
  obtain ⟨v',G,h1,h2,h3,h4,h5⟩:=nested_change h.rel.mem hτ (b:=0) (g:=0) (t:=M.e) (l:=L) rfl hi (h.lie.trans hk) hc
  rw [hcell] at h1;cases h1
  have hev:a.eval (.tmp s)=v:=by
    show a.tmps.getD s undef=v
    simp only [Array.getD_eq_getD_getElem?,hv,Option.getD_some]
  have hargs:c.args.map a.eval=#[v,.int .i64 n]:=by
    apply Array.ext'
    rw [Array.toList_map,hxy]
    simp [hev,h.int_of hy]
  intro next Q hnext
  unfold Oper.wp
  rw [call_run ho hmk.fn hf,Oper.upon_enter,hargs]
  refine (hmk.calls w v l G n z.1 z.2 h2 h3 h4 hsem).mono fun e w' hp=>?_
  cases e with
  | panicked c=>exact hp.elim
  | outgrown=>exact hp.elim
  | returned q =>
  obtain ⟨rfl,hM,F',hT',hnd',hF'⟩:=hp
  obtain ⟨y',hy'⟩:=cells_set true M.e L[i] off _ (.sl true u z.1) hc (.sl true u l z.1)
  have hof:M.e.ofCells false ((M.e.cells true L[i]).set off (.sl true u z.1))=some (y',[]):=by
    rw [← hy']
    have:=ofCells_cells false M.e y' [] hna
    rwa [List.append_nil] at this
  obtain ⟨τ',hch⟩:=h5 w' z.1 F' y' hM hT' hnd' hF' hof
  have hrel2:=Change.rel (st:=st.real i L) (τ:=τ) hch h.rel hτ (by
    show quietBl [.arr 0 true true M.e L] 0 [0]=true
    rfl)
  have hlen:(L.set i y').length=L.length:=by simp
  have hrel:FRel E w0 m0 M.e (L.set i y') i more μ { st.still with el:=st.el.set off (.sl true u z.1) } a w':=by
    refine ⟨?_,h.lie,fun _=>⟨by rw [hlen];exact hi,by rw [List.getElem_set_self,hel];exact hy'.symm⟩,fun s off' hs=>(no_nest hs).elim,by rw [hlen];exact h.lim⟩
    have:({ st.still with el:=st.el.set off (.sl true u z.1) }:FSt).real i (L.set i y')={ st.real i L with tmps:=(st.real i L).tmps.map V.quiet,bl:=(st.real i L).bl.set 0 (.arr 0 true true M.e (L.set i y')) }:=by
      rw [real_quiet]
      have h1:=congrArg St.tmps (still_real st i L)
      simp only [FSt.real,hlen] at h1 ⊢
      rw [h1];rfl
    rw [this];exact hrel2
  exact hnext (.int z.2) _ μ _ _ w' hK ⟨rfl,fun _ e=>by cases e⟩ hrel hlen fun j hj=>by rw [List.getElem?_set_ne (by omega)]
end
end Go.Proofs.YtigbabjhcihmaaaGreatDoor.Ev
namespace Go.Proofs.YtigbabjhcihmaaaGreatDoor.Ev
open Go Go.RowKit
set_option linter.unusedVariables false
set_option linter.unusedSimpArgs false
variable {ρ:Type}
section
variable {P:Program} {M:MCx} {E:Env} {w0 w:World} {m0:Option (Nat × Nat)} {L:List M.e.den} {i:Nat} {more:Bool} {μ:Lie} {st:FSt} {a:Act} {o:Oper}
theorem isOne_get {y:Operand} (h:isOne y=true):st.get y = .int 1:=by
  cases y with
  | const v=>cases v with
    | int k n =>
      cases k with
      | i64 =>
        have:n=1:=of_decide_eq_true h
        subst this;rfl
      | _=>exact absurd h (by simp [isOne])
    | _=>cases h
  | _=>cases h
theorem fok_bin (hcx:M.cx.ok P) (h:FRel E w0 m0 M.e L i more μ st a w) {op:BinOp} {t:TypeId} {x y:Operand} {t2:TypeId} (ho:o.op = .binOp op t x y t2) {K:FV→FSt→Option ρ} {r:ρ} (hK:evFBin more op (st.get x) (st.get y) (isOne y) (fun v=>K v st)=some r):FOk P M E w0 m0 L i more a w o K r:=by
  have gx:=FSt.real_get st i L x
  have gy:=FSt.real_get st i L y
  unfold evFBin at hK
  split at hK
  case h_4=>cases hK
  · next a1 b1 hx hy =>
    rw [hx] at gx
    rw [hy] at gy
    replace gx:=gx (by simp)
    replace gy:=gy (by simp)
    split at hK
    case h_4=>cases hK
    · refine FOk.pure h hcx hK (by simp) ?_
      unfold evPure;simp only [ho];unfold evBin;simp only [gx,gy,FV.toV,if_true,binInt]
    · have hb:=(cond_none' hK).1
      replace hK:=(cond_none' hK).2
      refine FOk.pure h hcx hK (by simp) ?_
      unfold evPure;simp only [ho];unfold evBin;simp only [gx,gy,FV.toV,if_true,binInt,hb,cond_false]
    · refine FOk.pure h hcx hK (by simp) ?_
      unfold evPure;simp only [ho];unfold evBin;simp only [gx,gy,FV.toV,if_true,binInt]
  · next b1 hx hy =>
    split at hK
    case h_2=>cases hK
    have h1:=(cond_none hK).1
    replace hK:=(cond_none hK).2
    rw [hx] at gx
    have hy':=isOne_get (st:=st) h1
    rw [hy'] at gy
    replace gx:=gx (by simp)
    replace gy:=gy (by simp)
    refine FOk.pure h hcx hK (by simp) ?_
    unfold evPure;simp only [ho];unfold evBin;simp only [gx,gy,FV.toV,if_true,binInt]
  · next hx hy =>
    split at hK
    case h_2=>cases hK
    rw [hx] at gx
    rw [hy] at gy
    replace gx:=gx (by simp)
    replace gy:=gy (by simp)
    refine FOk.pure h hcx hK (by simp) ?_
    unfold evPure;simp only [ho];unfold evBin;simp only [gx,gy,FV.toV,if_true,binInt,h.lim]
    have:decide ((i:Int)<(L.length:Int))=decide (i<L.length):=decide_eq_decide.mpr Int.ofNat_lt
    rw [this]
theorem evFStore_some {ty:Ty} {v:FV} {c:Option A} {K:A→Option ρ} {r:ρ} (h:evFStore ty v c K=some r):∃ c0 c',c=some c0∧Kin c0 c'∧v.toV 0 0 = .at c'∧(∀ i n,v.toV i n = .at c')∧v ≠ .un∧c' ≠ .undef∧rowsOf [c']=[]∧(∀ bl,moves bl [c']=true)∧ty.size=1∧K c'=some r:=by
  unfold evFStore at h
  split at h
  case h_4=>cases h
  · exact ⟨_,_,rfl,.int _ _ _,rfl,fun _ _=>rfl,by simp,by simp,rfl,fun _=>rfl,rfl,h⟩
  · exact ⟨_,_,rfl,.bool _ _,rfl,fun _ _=>rfl,by simp,by simp,rfl,fun _=>rfl,rfl,h⟩
  · exact ⟨_,_,rfl,.str _ _,rfl,fun _ _=>rfl,by simp,by simp,rfl,fun _=>rfl,rfl,h⟩
theorem evFOp_sound (hna:M.e.noAdr=true) (hcx:M.cx.good P E.G) (hmk:∀ f m,M.mark f=some m→m.ok P f) (h:FRel E w0 m0 M.e L i more μ st a w) {K:FV→FSt→Option ρ} {r:ρ} (hev:evFOp M more o st K=some r):FOk P M E w0 m0 L i more a w o K r:=by
  unfold evFOp at hev
  have move:∀ x,(o.op = .move x∨o.op = .assign x)→(match st.get x with | .un=>none | .nest _=>none | v=>K v st)=some r→FOk P M E w0 m0 L i more a w o K r:=by
    intro x ho hv
    split at hv
    · cases hv
    · cases hv
    · rename_i h1 h2
      have gx:=FSt.real_get st i L x (by intro q;exact h1 q)
      refine FOk.pure h hcx.ok hv (fun off q=>h2 off q) ?_
      rcases ho with ho | ho <;> (unfold evPure;simp only [ho,gx])
  split at hev
  · next x ho=>exact move x (Or.inl ho) hev
  · next x ho=>exact move x (Or.inr ho) hev
  · next ho=>exact fok_bin hcx.ok h ho hev
  · next t x ix ho =>
    split at hev
    case h_2=>cases hev
    next hx hi =>
    have hc:=(cond_none hev).1
    replace hev:=(cond_none hev).2
    rw [Bool.and_eq_true] at hc
    have gx:=FSt.real_get st i L x (by rw [hx];simp)
    have gi:=FSt.real_get st i L ix (by rw [hi];simp)
    rw [hx] at gx
    rw [hi] at gi
    have hlt:i<L.length:=by have:=h.lim;rw [hc.1] at this;simpa using this.symm
    refine FOk.pure h hcx.ok hev (by simp) ?_
    unfold evPure;simp only [ho,gx,gi,FV.toV]
    show (bif ((0:Nat) == 0&&sliceTy M.cx t M.e) then (bif decide (0≤(i:Int)∧(i:Int)<(L.length:Int)) then some (V.at (.ep 0 0 (i:Int).toNat 0)) else none) else none)=_
    rw [hc.2]
    have:decide (0≤(i:Int)∧(i:Int)<(L.length:Int))=true:=decide_eq_true (by omega)
    rw [this];rfl
  · next t x f ho =>
    split at hev
    case h_2=>cases hev
    next off u hx ht =>
    split at hev
    case h_2=>cases hev
    next d u2 hd =>
    have gx:=FSt.real_get st i L x (by rw [hx];simp)
    rw [hx] at gx
    refine FOk.pure h hcx.ok hev (by simp) ?_
    unfold evPure;simp only [ho,gx,FV.toV,ht,hd];rfl
  · next t ad ho =>
    split at hev
    case h_2=>cases hev
    next off e' ha ht =>
    split at hev
    case h_2=>cases hev
    next u l hc =>
    have hm:=(cond_none hev).1
    replace hev:=(cond_none hev).2
    exact fok_load hcx.ok h ho ht ha hm hc hev
  · next t ad x ho =>
    split at hev
    case h_2=>cases hev
    next off ty ha ht =>
    have hm:=(cond_none hev).1
    replace hev:=(cond_none hev).2
    obtain ⟨c0,c',h1,h2,h3,h4,h5,h6,h7,h8,h9,h10⟩:=evFStore_some hev
    exact fok_store hna hcx.ok h ho ht ha hm (by rw [FSt.real_get st i L x h5,h4]) h6 h7 (h8 _) h9 h1 h2 h10
  · next c ho =>
    split at hev
    · next hb =>
      split at hev
      case h_2=>cases hev
      next x t hx ht =>
      split at hev
      case h_2=>cases hev
      next hr =>
      have hc:=(cond_none hev).1
      replace hev:=(cond_none hev).2
      have gx:=FSt.real_get st i L x (by rw [hr];simp)
      rw [hr] at gx
      refine FOk.pure h hcx.ok hev (by simp) ?_
      unfold evPure;simp only [ho,hb,hx,ht,gx,FV.toV]
      unfold sliceTy at hc
      split at hc
      · next e2 he2 =>
        simp only [he2]
        rfl
      · cases hc
    · next f hf =>
      split at hev
      · next m hm =>
        split at hev
        case h_2=>cases hev
        next x y hxy =>
        split at hev
        case h_2=>cases hev
        next off n hx hy =>
        have hmo:=(cond_none hev).1
        replace hev:=(cond_none hev).2
        exact fok_mark hna h ho hf (hmk f m hm) hxy hx hy hmo hev
      · next hm =>
        split at hev
        case h_2=>cases hev
        next s hs =>
        split at hev
        case h_2=>cases hev
        next x hx =>
        split at hev
        case h_2=>cases hev
        next n hn =>
        cases ht:textOf s n with
        | none=>rw [ht] at hev;cases hev
        | some t =>
          rw [ht] at hev
          exact fok_text hcx h ho hf hs hx hn ht hev
    · cases hev
  · cases hev
def FPost (E:Env) (w0:World) (m0:Option (Nat × Nat)) {e:Ty} (L:List e.den) (i:Nat) (more:Bool) (K:Ex→FSt→Option ρ) (r:ρ) (n:Nat) (x:Exit) (a':Act) (w':World):Prop :=
  ∃ ex st' μ' L',exOf ex=x∧K ex st'=some r∧FRel E w0 m0 e L' i more μ' st' a' w'∧a'.tmps.size=n∧L'.length=L.length∧∀ j,j≠i→L'[j]? = L[j]?
theorem put_size (a:Act) (d:Option Tmp) (v:Value):(a.put d v).tmps.size=a.tmps.size:=by
  cases d <;> simp [Act.put]
theorem evFOps_sound (hna:M.e.noAdr=true) (hcx:M.cx.good P E.G) (hmk:∀ f m,M.mark f=some m→m.ok P f) {ops:Array Oper} {Q:Exit→Act→World→Prop} {K:FSt→Option ρ} {r:ρ} :
    ∀ (rest:List Oper) (n:Nat) (L:List M.e.den) (st:FSt) (μ:Lie) (a:Act) (w:World),ops.toList.drop n=rest→FRel E w0 m0 M.e L i more μ st a w→evFOps M more rest st K=some r →
      (∀ st' μ' L' a' w',K st'=some r→FRel E w0 m0 M.e L' i more μ' st' a' w'→a'.tmps.size=a.tmps.size→L'.length=L.length→(∀ j,j≠i→L'[j]? = L[j]?)→Q .normal a' w')→wpOps P ops Q (List.range' n rest.length) a w
  | [],n,L,st,μ,a,w,_,h,hev,hQ=>hQ st μ L a w hev h rfl rfl fun _ _=>rfl
  | o :: rest,n,L,st,μ,a,w,hd,h,hev,hQ=>by
    have hi:ops.toList[n]? = some o:=by
      have:=congrArg (fun l=>l[0]?) hd
      simpa using this
    have hi':ops[n]? = some o:=by rw [← Array.getElem?_toList];exact hi
    have hd':ops.toList.drop (n+1)=rest:=by
      have:=congrArg List.tail hd
      simpa using this
    unfold evFOps at hev
    split at hev
    case h_2=>cases hev
    next hg =>
    rw [List.length_cons,List.range'_succ]
    unfold wpOps
    simp only [hi']
    have hw:Region.wanted o (yielded ops a.tmps)=true:=by unfold Region.wanted;rw [hg]
    rw [if_pos hw]
    refine Or.inl (evFOp_sound hna hcx hmk h hev _ Q fun x st' μ' L' v w' hk hv h' hl hj=>?_)
    exact evFOps_sound hna hcx hmk rest (n+1) L' _ μ' _ w' hd' (h'.put o.dst hv) hk fun st2 μ2 L2 a2 w2 q1 q2 q5 q3 q4=>hQ st2 μ2 L2 a2 w2 q1 q2 (q5.trans (put_size _ _ _)) (q3.trans hl) fun j hne=>(q4 j hne).trans (hj j hne)
theorem FPost.trans {e:Ty} {L L1:List e.den} {K:Ex→FSt→Option ρ} {r:ρ} {n:Nat} {x:Exit} {a':Act} {w':World} (h:FPost E w0 m0 L1 i more K r n x a' w') (hl:L1.length=L.length) (hj:∀ j,j≠i→L1[j]? = L[j]?):FPost E w0 m0 L i more K r n x a' w':=by
  obtain ⟨ex,st',μ',L',h1,h2,h3,h6,h4,h5⟩:=h
  exact ⟨ex,st',μ',L',h1,h2,h3,h6,h4.trans hl,fun j hne=>(h5 j hne).trans (hj j hne)⟩
theorem evFCode_sound (hna:M.e.noAdr=true) (hcx:M.cx.good P E.G) (hmk:∀ f m,M.mark f=some m→m.ok P f):∀ (c:Code) (L:List M.e.den) (st:FSt) (K:Ex→FSt→Option ρ) (r:ρ) (μ:Lie) (a:Act) (w:World),FRel E w0 m0 M.e L i more μ st a w →
    evFCode M more c st K=some r→c.wp P (FPost E w0 m0 L i more K r a.tmps.size) a w:=by
  intro c
  induction c with
  | skip =>
    intro L st K r μ a w h hev
    exact wp_skip ⟨.normal,st,μ,L,rfl,hev,h,rfl,rfl,fun _ _=>rfl⟩
  | region id ops draw =>
    intro L st K r μ a w h hev
    unfold evFCode at hev
    have hd:=(cond_none' hev).1
    replace hev:=(cond_none' hev).2
    subst hd
    refine wp_region ?_
    rw [List.range_eq_range',show ops.size=ops.toList.length by simp]
    exact evFOps_sound hna hcx hmk ops.toList 0 L st μ a w rfl h hev fun st' μ' L' a' w' q1 q2 q5 q3 q4=>⟨.normal,st',μ',L',rfl,q1,q2,q5,q3,q4⟩
  | seq x y ihx ihy =>
    intro L st K r μ a w h hev
    unfold evFCode at hev
    refine wp_seq (wp_mono (ihx L st _ r μ a w h hev) ?_)
    rintro e a1 w1 ⟨ex,st1,μ1,L1,rfl,hk,h1,hsz,hl,hj⟩
    cases ex with
    | normal=>exact wp_mono (ihy L1 st1 K r μ1 a1 w1 h1 hk) fun e a2 w2 q=>hsz ▸ q.trans hl hj
    | exit i=>exact ⟨.exit i,st1,μ1,L1,rfl,hk,h1,hsz,hl,hj⟩
    | ret=>exact ⟨.ret,st1,μ1,L1,rfl,hk,h1,hsz,hl,hj⟩
  | cond c x y ihx ihy =>
    intro L st K r μ a w h hev
    cases c with
    | tmp t =>
      unfold evFCode at hev
      split at hev
      case h_2=>cases hev
      next b hb =>
      have hg:st.get (.tmp t) = .bool b:=hb
      have hv:=h.rel.get (.tmp t)
      rw [FSt.real_get st i L (.tmp t) (by rw [hg];simp),hg] at hv
      have hv:a.eval (.tmp t) = .bool b:=hv
      cases b with
      | true=>exact wp_cond_true hv (ihx L st K r μ a w h hev)
      | false=>exact wp_cond_false hv (ihy L st K r μ a w h hev)
    | const v=>unfold evFCode at hev;cases hev
    | global g=>unfold evFCode at hev;cases hev
    | func f=>unfold evFCode at hev;cases hev
  | block id x ih =>
    intro L st K r μ a w h hev
    unfold evFCode at hev
    refine wp_block (wp_mono (ih L st _ r μ a w h hev) ?_)
    rintro e a1 w1 ⟨ex,st1,μ1,L1,rfl,hk,h1,hsz,hl,hj⟩
    cases ex with
    | normal=>exact ⟨.normal,st1,μ1,L1,rfl,hk,h1,hsz,hl,hj⟩
    | ret=>exact ⟨.ret,st1,μ1,L1,rfl,hk,h1,hsz,hl,hj⟩
    | exit n =>
      simp only [exOf,Exit.inBlock]
      by_cases hi:n=id
      · subst hi
        simp only [beq_self_eq_true,cond_true] at hk
        rw [if_pos rfl]
        exact ⟨.normal,st1,μ1,L1,rfl,hk,h1,hsz,hl,hj⟩
      · have:(n == id)=false:=by simpa using hi
        simp only [this,cond_false] at hk
        rw [if_neg hi]
        exact ⟨.exit n,st1,μ1,L1,rfl,hk,h1,hsz,hl,hj⟩
  | exit id =>
    intro L st K r μ a w h hev
    exact wp_exit ⟨.exit id,st,μ,L,rfl,hev,h,rfl,rfl,fun _ _=>rfl⟩
  | ret =>
    intro L st K r μ a w h hev
    exact wp_ret ⟨.ret,st,μ,L,rfl,hev,h,rfl,rfl,fun _ _=>rfl⟩
  | loop x _=>intro L st K r μ a w h hev;unfold evFCode at hev;cases hev
  | rangeFunc f ps x y _ _=>intro L st K r μ a w h hev;unfold evFCode at hev;cases hev
  | scope x _=>intro L st K r μ a w h hev;unfold evFCode at hev;cases hev
  | label l=>intro L st K r μ a w h hev;unfold evFCode at hev;cases hev
  | goto l=>intro L st K r μ a w h hev;unfold evFCode at hev;cases hev
  | refuse=>intro L st K r μ a w h hev;unfold evFCode at hev;cases hev
end
end Go.Proofs.YtigbabjhcihmaaaGreatDoor.Ev
