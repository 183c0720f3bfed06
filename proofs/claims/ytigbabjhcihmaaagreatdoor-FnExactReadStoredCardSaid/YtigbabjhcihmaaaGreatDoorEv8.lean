/- A function that writes through each element of its row keeps its contract. -/
import Derived.Test.YtigbabjhcihmaaaGreatDoorEv7
import Derived.Test.YtigbabjhcihmaaaGreatDoorEv6
namespace Go.Proofs.YtigbabjhcihmaaaGreatDoor.Ev
open Go Go.RowKit
set_option linter.unusedVariables false
set_option linter.unusedSimpArgs false
variable {ρ:Type}
abbrev Env.mark (w:World) (F:List Nat):Env:=⟨w.heap.size,fun k=>w.heap.size≤k∨k∈F,fun _ h=>Or.inl h,fun _=>False,fun _=>True⟩
theorem mark_init {w:World} {e:Ty} {x:List e.den} {v:Value} {F:List Nat} (h:HoldsT w (.slice e) x [v] F) (hnd:F.Nodup) (hlt:∀ j∈F,j<w.heap.size) :
    ∃ m0,RowVal m0 x.length v∧Mem (Env.mark w F) w w (fun b=>if b=0 then m0 else none) [.arr 0 true true e x]∧Trees (Env.mark w F) w (fun b=>if b=0 then m0 else none) [.arr 0 true true e x]:=by
  simp only [HoldsT] at h
  obtain ⟨v',hv,h⟩:=h
  cases hv
  have hb:∀ (b:Nat) (blk:Blk),([.arr 0 true true e x]:List Blk)[b]? = some blk→b=0∧blk = .arr 0 true true e x:=by
    intro b blk hbl
    cases b with
    | zero=>simp only [List.getElem?_cons_zero,Option.some.injEq] at hbl;exact ⟨rfl,hbl.symm⟩
    | succ b=>simp at hbl
  have apart:∀ (m0:Option (Nat × Nat)) (b b' k c c':Nat),(if b=0 then m0 else none)=some (k,c)→(if b'=0 then m0 else none)=some (k,c')→b=b':=by
    intro m0 b b' k c c' h1 h2
    split at h1
    · split at h2
      · omega
      · cases h2
    · cases h1
  have htree:∀ b,Tree [.arr 0 true true e x] b→b=0:=fun b ⟨g,t,l,q⟩=>(hb b _ q).1
  rcases h with ⟨rfl,rfl,rfl⟩ | ⟨k,cap,cells,ty,fz,Fs,rfl,h2,h3,h4,h5,rfl,h7,h8⟩
  · refine ⟨none,⟨rfl,rfl⟩,⟨fun _ _=>trivial,Env.Apart.refl _ _,Nat.le_refl _,fun b blk hbl=>?_,fun b b' k c c' h1 h2 _ _=>apart none b b' k c c' h1 h2⟩,⟨fun _=>[],fun b g t l q=>?_,fun b hT k hk=>(by cases hk),fun _ _=>List.nodup_nil,fun b b' hT hT' hne=>absurd ((htree b hT).trans (htree b' hT').symm) hne⟩⟩
    · obtain ⟨rfl,rfl⟩:=hb b blk hbl
      exact Or.inl ⟨rfl,rfl⟩
    · obtain ⟨rfl,q⟩:=hb b _ q
      cases q
      exact Or.inl ⟨rfl,rfl⟩
  · rw [List.nodup_cons] at hnd
    have hown:∀ j,Own (fun b=>if b=0 then some (k,cap) else none) [.arr 0 true true e x] j→j=k:=by
      rintro j ⟨b,c,hbc,_⟩
      simp only at hbc
      split at hbc
      · cases hbc;rfl
      · cases hbc
    refine ⟨some (k,cap),rfl,⟨fun _ _=>trivial,Env.Apart.refl _ _,Nat.le_refl _,fun b blk hbl=>?_,fun b b' k' c c' h1 h2 _ _=>apart _ b b' k' c c' h1 h2⟩,⟨fun _=>Fs.flatten,fun b g t l q=>?_,fun b hT j hj=>?_,fun b hT=>hnd.2,fun b b' hT hT' hne=>absurd ((htree b hT).trans (htree b' hT').symm) hne⟩⟩
    · obtain ⟨rfl,rfl⟩:=hb b blk hbl
      refine Or.inr ⟨k,cap,cells,ty,fz,rfl,Or.inr (List.mem_cons_self ..),h2,h3,h4,h5,fun i hi=>(h8 i hi).holds.weaken fun j hj _=>?_⟩
      have hj:=mem_flatten_getD hj
      exact ⟨Or.inl (Or.inr (List.mem_cons_of_mem _ hj)),fun ho=>hnd.1 (hown j ho ▸ hj)⟩
    · obtain ⟨rfl,q⟩:=hb b _ q
      cases q
      exact Or.inr ⟨k,cap,cells,ty,fz,Fs,rfl,h2,rfl,h7,h8⟩
    · exact ⟨Or.inr (List.mem_cons_of_mem _ hj),hlt j (List.mem_cons_of_mem _ hj),fun ho=>hnd.1 (hown j ho ▸ hj)⟩
theorem mark_end {w w':World} {F:List Nat} {μ:Lie} {bl:List Blk} (hm:Mem (Env.mark w F) w w' μ bl):Marked F w w' :=
  ⟨hm.below.os,hm.below.tape,hm.below.output,hm.below.size,fun k hk hn=>hm.below.block k hk fun h=>by
    rcases h with h | h
    · have h:w.heap.size≤k:=h
      omega
    · exact hn h⟩
def headSt (nt is:Nat) (k:Int) (el:List A):FSt:=⟨(List.range nt).map fun s=>bif Nat.beq s 0 then .row else bif Nat.beq s 1 then .int k else bif Nat.beq s is then .idx else .un,el⟩
def onlyK (nt:Nat) (k:Int):FSt:=⟨(List.range nt).map fun s=>bif Nat.beq s 1 then .int k else .un,[]⟩
def startSt (nt:Nat) (k:Int):FSt:=⟨(List.range nt).map fun s=>bif Nat.beq s 0 then .row else bif Nat.beq s 1 then .int k else .un,[]⟩
def headFrom (first:Bool) (is:Nat) (st:FSt):Option Int :=
  match st.tmps.getD 0 .un,st.tmps.getD 1 .un,st.tmps.getD is .un with
  | .row,.int k,.int n=>bif first&&decide (n=0) then some k else none
  | .row,.int k,.next=>bif first then none else some k
  | _,_,_=>none
def kFrom (s:Nat) (st:FSt):Option Int :=
  match st.tmps.getD s .un with
  | .int k=>some k
  | _=>none
def roundRun (M:MCx) (nt is:Nat) (round:Code) (x:M.e.den) (k:Int):Option (M.e.den × Int) :=
  evFCode M true round (headSt nt is k (M.e.cells true x)) fun ex st=>match ex with
    | .normal=>(match M.e.ofCells false st.el,headFrom false is st with
      | some (y,[]),some k'=>some (y,k')
      | _,_=>none)
    | _=>none
def stopRun (M:MCx) (nt is b:Nat) (round:Code) (k:Int):Option Int :=
  evFCode M false round (headSt nt is k []) fun ex st=>match ex with
    | .exit n=>bif Nat.beq n b then kFrom 1 st else none
    | _=>none
def preRun (M:MCx) (nt is:Nat) (pre0 pre1:Code) (k:Int):Option Int :=
  evFCode M false pre0 (startSt nt k) fun ex st=>match ex with
    | .normal=>evFCode M false pre1 st fun ex st=>match ex with
      | .normal=>headFrom true is st
      | _=>none
    | _=>none
def postRun (M:MCx) (nt rs:Nat) (post:Code) (k:Int):Option Int :=
  evFCode M false post (onlyK nt k) fun ex st=>match ex with
    | .normal=>kFrom rs st
    | _=>none
def markRows {α:Type} (step:α→Int→Option (α × Int)):List α→Int→Option (List α × Int)
  | [],k=>some ([],k)
  | x :: r,k=>(step x k).bind fun y=>(markRows step r y.2).bind fun z=>some (y.1 :: z.1,z.2)
def markAll {α:Type} (step:α→Int→Option (α × Int)) (l:List α) (k:Int):Option (List α × Int) :=
  bif Nat.ble l.length most then markRows step l k else none
theorem markRows_length {α:Type} {step:α→Int→Option (α × Int)}:∀ {l:List α} {k:Int} {z:List α × Int},markRows step l k=some z→z.1.length=l.length
  | [],k,z,h=>by simp only [markRows] at h;cases h;rfl
  | x :: r,k,z,h=>by
    simp only [markRows] at h
    cases h1:step x k with
    | none=>rw [h1] at h;cases h
    | some y =>
      rw [h1] at h
      simp only [Option.bind_some] at h
      cases h2:markRows step r y.2 with
      | none=>rw [h2] at h;cases h
      | some z' =>
        rw [h2] at h
        simp only [Option.bind_some,Option.some.injEq] at h
        subst h
        simp only [List.length_cons,markRows_length h2]
section
variable {P:Program} {M:MCx} {E:Env} {w0 w:World} {m0:Option (Nat × Nat)} {L:List M.e.den} {i:Nat} {more:Bool} {μ:Lie} {st:FSt} {a:Act}
theorem headFrom_some {first:Bool} {is:Nat} {st:FSt} {k:Int} (h:headFrom first is st=some k):st.tmps.getD 0 .un = .row∧st.tmps.getD 1 .un = .int k∧(first=true→st.tmps.getD is .un = .int 0)∧(first=false→st.tmps.getD is .un = .next):=by
  unfold headFrom at h
  split at h
  · next k' n h1 h2 h3 =>
    have hc:=(cond_none h).1
    replace h:=(cond_none h).2
    cases h
    rw [Bool.and_eq_true] at hc
    obtain ⟨rfl,hc⟩:=hc
    have:n=0:=of_decide_eq_true hc
    subst this
    exact ⟨h1,h2,fun _=>h3,fun q=>by cases q⟩
  · next k' h1 h2 h3 =>
    have hc:=(cond_none' h).1
    replace h:=(cond_none' h).2
    cases h
    subst hc
    exact ⟨h1,h2,fun q=>(by cases q),fun _=>h3⟩
  · cases h
theorem kFrom_some {s:Nat} {st:FSt} {k:Int} (h:kFrom s st=some k):st.tmps.getD s .un = .int k:=by
  unfold kFrom at h
  split at h
  · next k' h1=>cases h;exact h1
  · cases h
theorem FRel.view (h:FRel E w0 m0 M.e L i more μ st a w) {i':Nat} {more':Bool} {g:Nat→FV} {el:List A} {nt:Nat} (hnt:st.tmps.length=nt) (hg:∀ s,s<nt→(g s).toV i' L.length=V.undef∨(g s).toV i' L.length=((st.tmps.getD s .un).toV i L.length))
    (hn:∀ s off,g s ≠ .nest off) (hel:more'=true→∃ hi:i'<L.length,el=M.e.cells true L[i']) (hl:more'=decide (i'<L.length)):FRel E w0 m0 M.e L i' more' μ ⟨(List.range nt).map g,el⟩ a w:=by
  have hlen:(st.tmps.map (FV.toV i L.length)).length=a.tmps.toList.length:=All2.length h.rel.slots
  refine ⟨⟨h.rel.mem,?_,h.rel.defers,h.rel.tree⟩,h.lie,hel,fun s off hs=>?_,hl⟩
  · simp only [FSt.real,List.map_map]
    refine All2.of_get (by simp only [List.length_map,List.length_range] at hlen ⊢;omega) fun s x v hx hv=>?_
    rw [List.getElem?_map] at hx
    cases hr:(List.range nt)[s]? with
    | none=>rw [hr] at hx;cases hx
    | some s' =>
      have hs:s'=s∧s<nt:=by
        rcases Nat.lt_or_ge s nt with q | q
        · rw [List.getElem?_range q] at hr;cases hr;exact ⟨rfl,q⟩
        · rw [List.getElem?_eq_none (by simpa using q)] at hr;cases hr
      obtain ⟨rfl,hs⟩:=hs
      rw [hr] at hx
      simp only [Option.map_some,Function.comp_apply,Option.some.injEq] at hx
      rcases hg s' hs with q | q
      · rw [q] at hx;subst hx;trivial
      · rw [q] at hx
        have hst:(st.tmps.map (FV.toV i L.length))[s']? = some x:=by
          rw [List.getElem?_map]
          rw [List.getD_eq_getElem?_getD] at hx
          cases hq:st.tmps[s']? with
          | none=>rw [List.getElem?_eq_none_iff] at hq;omega
          | some y=>rw [hq] at hx;exact congrArg some hx
        obtain ⟨v',hv',hrep⟩:=All2.get h.rel.slots hst
        rw [hv] at hv';cases hv'
        exact hrep
  · simp only at hs
    rw [List.getElem?_map] at hs
    cases hr:(List.range nt)[s]? with
    | none=>rw [hr] at hs;cases hs
    | some s'=>rw [hr] at hs;simp only [Option.map_some,Option.some.injEq] at hs;exact absurd hs (hn s' off)
end
end Go.Proofs.YtigbabjhcihmaaaGreatDoor.Ev
namespace Go.Proofs.YtigbabjhcihmaaaGreatDoor.Ev
open Go Go.RowKit
set_option linter.unusedVariables false
set_option linter.unusedSimpArgs false
variable {ρ:Type}
section
variable {P:Program} {M:MCx} {E:Env} {w0 w:World} {m0:Option (Nat × Nat)} {L:List M.e.den} {i:Nat} {more:Bool} {μ:Lie} {st:FSt} {a:Act}
def elAt (M:MCx) (L:List M.e.den) (i:Nat):List A :=
  match L[i]? with
  | some x=>M.e.cells true x
  | none=>[]
def RowsDone (E:Env) (w0:World) (m0:Option (Nat × Nat)) (M:MCx) (L:List M.e.den) (b n:Nat) (k:Int) (e:Exit) (a':Act) (w':World):Prop :=
  e = .exit b∧a'.tmps.size=n∧∃ st' μ' i',FRel E w0 m0 M.e L i' false μ' st' a' w'∧st'.tmps.getD 1 .un = .int k
theorem FRel.slots_length (h:FRel E w0 m0 M.e L i more μ st a w):st.tmps.length=a.tmps.size:=by
  have hlen:(st.tmps.map (FV.toV i L.length)).length=a.tmps.toList.length:=All2.length h.rel.slots
  simpa using hlen
theorem head_nest (nt is:Nat) (k:Int) (s off:Nat):(bif Nat.beq s 0 then FV.row else bif Nat.beq s 1 then .int k else bif Nat.beq s is then .idx else .un) ≠ .nest off:=by
  cases Nat.beq s 0 <;> cases Nat.beq s 1 <;> cases Nat.beq s is <;> simp
theorem loop_rows (hna:M.e.noAdr=true) (hcx:M.cx.good P E.G) (hmk:∀ f m,M.mark f=some m→m.ok P f) {nt is b:Nat} {round:Code} {step:M.e.den→Int→Option (M.e.den × Int)} (hround:roundRun M nt is round=step) (hstop:∀ k,stopRun M nt is b round k=some k) :
    ∀ (rest:List M.e.den) (i:Nat) (L:List M.e.den) (k:Int) (z:List M.e.den × Int) (μ:Lie) (a:Act) (w:World),L.drop i=rest→i≤L.length→L.length≤most→a.tmps.size=nt →
      FRel E w0 m0 M.e L i (decide (i<L.length)) μ (headSt nt is k (elAt M L i)) a w→markRows step rest k=some z→LoopAt P round (fun e a' w'=>∃ L',L'=L.take i++z.1∧RowsDone E w0 m0 M L' b nt z.2 e a' w') a w
  | [],i,L,k,z,μ,a,w,hd,hi,hL,hnt,h,hz=>by
    simp only [markRows] at hz
    cases hz
    have hiL:i=L.length:=by
      have:=congrArg List.length hd
      rw [List.length_drop] at this
      simp only [List.length_nil] at this
      omega
    subst hiL
    have hmore:decide (L.length<L.length)=false:=decide_eq_false (by omega)
    have hel:elAt M L L.length=[]:=by unfold elAt;rw [List.getElem?_eq_none (Nat.le_refl _)]
    rw [hmore,hel] at h
    have hs:=hstop k
    unfold stopRun at hs
    refine loop_unroll (wp_mono (evFCode_sound hna hcx hmk round L _ _ k μ a w h hs) ?_)
    rintro e a2 w2 ⟨ex,st2,μ2,L2,rfl,hk,h2,hsz,hl,hj⟩
    cases ex with
    | normal=>cases hk
    | ret=>cases hk
    | exit n =>
      simp only at hk
      have hc:=(cond_none hk).1
      replace hk:=(cond_none hk).2
      have hnb:n=b:=Nat.eq_of_beq_eq_true hc
      subst hnb
      have hLL:L2=L:=by
        refine List.ext_getElem? fun j=>?_
        by_cases hjn:j=L.length
        · subst hjn
          rw [List.getElem?_eq_none (by omega),List.getElem?_eq_none (by omega)]
        · exact hj j hjn
      subst hLL
      exact ⟨L2,by simp,rfl,hsz.trans hnt,st2,μ2,_,h2,kFrom_some hk⟩
  | x :: rest,i,L,k,z,μ,a,w,hd,hi,hL,hnt,h,hz=>by
    have hlt:i<L.length:=by
      rcases Nat.lt_or_ge i L.length with q | q
      · exact q
      · rw [List.drop_eq_nil_of_le q] at hd;cases hd
    have hx:L[i]? = some x:=by
      have:=congrArg (fun l=>l[0]?) hd
      simpa using this
    simp only [markRows] at hz
    cases hst:step x k with
    | none=>rw [hst] at hz;cases hz
    | some y =>
    obtain ⟨y0,k0⟩:=y
    rw [hst] at hz
    simp only [Option.bind_some] at hz
    cases hr:markRows step rest k0 with
    | none=>rw [hr] at hz;cases hz
    | some z' =>
    rw [hr] at hz
    simp only [Option.bind_some,Option.some.injEq] at hz
    subst hz
    have hmore:decide (i<L.length)=true:=decide_eq_true hlt
    have hel:elAt M L i=M.e.cells true x:=by unfold elAt;rw [hx]
    rw [hmore,hel] at h
    have hs:roundRun M nt is round x k=some (y0,k0):=by rw [hround];exact hst
    unfold roundRun at hs
    refine loop_unroll (wp_mono (evFCode_sound hna hcx hmk round L _ _ (y0,k0) μ a w h hs) ?_)
    rintro e a2 w2 ⟨ex,st2,μ2,L2,rfl,hk,h2,hsz,hl,hj⟩
    cases ex with
    | exit n=>cases hk
    | ret=>cases hk
    | normal =>
      simp only at hk
      split at hk
      case h_2=>cases hk
      next y1 k1 hof hhead =>
      cases hk
      obtain ⟨hi2,hel2⟩:=h2.foc rfl
      rw [hel2] at hof
      have hof2:=ofCells_cells false M.e L2[i] [] hna
      rw [List.append_nil,hof] at hof2
      have hyL:L2[i]=y0:=by cases hof2;rfl
      obtain ⟨q0,q1,_,q2⟩:=headFrom_some hhead
      replace q2:=q2 rfl
      have hl2:=h2.slots_length
      have hdrop:L2.drop (i+1)=rest:=by
        have hd1:L.drop (i+1)=rest:=by
          have:=congrArg List.tail hd
          simpa using this
        rw [← hd1]
        refine List.ext_getElem? fun j=>?_
        rw [List.getElem?_drop,List.getElem?_drop]
        exact hj _ (by omega)
      have hLm:L2.length≤most:=by omega
      have hhd:FRel E w0 m0 M.e L2 (i+1) (decide (i+1<L2.length)) μ2 (headSt nt is k0 (elAt M L2 (i+1))) a2 w2:=by
        refine h2.view (by omega) (fun s hs=>?_) (head_nest nt is k0) (fun hm=>?_) rfl
        · cases h0:Nat.beq s 0 with
          | true=>have:=Nat.eq_of_beq_eq_true h0;subst this;rw [q0];exact Or.inr rfl
          | false =>
            cases h1:Nat.beq s 1 with
            | true=>have:=Nat.eq_of_beq_eq_true h1;subst this;rw [q1];exact Or.inr rfl
            | false =>
              cases h3:Nat.beq s is with
              | true =>
                have:=Nat.eq_of_beq_eq_true h3;subst this;rw [q2]
                refine Or.inr ?_
                show V.at (.int .i64 ((i+1:Nat):Int))=V.at (.int .i64 (wr .i64 ((i:Int)+1)))
                have hmost:most=8589934592:=rfl
                rw [wr_small (by omega) (by omega)]
                congr 2
              | false=>exact Or.inl rfl
        · have hi3:i+1<L2.length:=of_decide_eq_true hm
          exact ⟨hi3,by unfold elAt;rw [List.getElem?_eq_getElem hi3]⟩
      have ih:=loop_rows hna hcx hmk hround hstop rest (i+1) L2 k0 z' μ2 a2 w2 hdrop (by omega) hLm (by omega) hhd hr
      show LoopAt P round _ a2 w2
      have htake:L2.take (i+1)++z'.1=L.take i++(y0 :: z'.1):=by
        have h1:L2.take (i+1)=L.take i++[y0]:=by
          rw [List.take_succ_eq_append_getElem hi2,hyL]
          congr 1
          refine List.ext_getElem? fun j=>?_
          rw [List.getElem?_take,List.getElem?_take]
          split
          · exact hj j (by omega)
          · rfl
        rw [h1];simp
      simp only at ih ⊢
      rw [htake] at ih
      exact ih
theorem rows_ok (hna:M.e.noAdr=true) (hcx:M.cx.good P fun _=>True) (hmk:∀ f m,M.mark f=some m→m.ok P f) {f:FuncId} {fn:Func} (hfn:P.funcs[f]? = some fn) (hname:fn.name ≠ "runtime.NumGoroutine") {pre0 pre1 round post:Code} {b nt is rs:Nat} {step:M.e.den→Int→Option (M.e.den × Int)}
    (hbody:fn.body=some (.seq pre0 (.seq (.seq pre1 (.block b (.loop round))) (.seq post .ret)))) (hnt:fn.ntmps=nt) (hres:fn.results=#[.tmp rs]) (hlt:1<nt)
    (hpre:preRun M nt is pre0 pre1=fun k=>some k) (hround:roundRun M nt is round=step) (hstop:stopRun M nt is b round=fun k=>some k) (hpost:postRun M nt rs post=fun k=>some k) :
    MSpec.ok P f ⟨.slice M.e,fun l k=>markAll step l k⟩:=by
  refine ⟨⟨fn,hfn,hname,by rw [hbody];rfl⟩,fun w v x F k x' k' hT hnd hFl hsem=>?_⟩
  have hT:HoldsT w (.slice M.e) x [v] F:=hT
  have hsem:markAll step x k=some (x',k'):=hsem
  unfold markAll at hsem
  have hmost:=Nat.le_of_ble_eq_true (cond_none hsem).1
  replace hsem:=(cond_none hsem).2
  obtain ⟨m0,hrv,hmem,htr⟩:=mark_init hT hnd hFl
  refine calls_of_wp hfn hbody ?_
  generalize hE:Env.mark w F=E at hmem htr
  have hEG:M.cx.good P E.G:=by rw [← hE];exact hcx
  generalize ha:({ tmps:=#[v,.int .i64 k]++Array.replicate (fn.ntmps-(#[v,.int .i64 k]:Array Value).size) undef,defers:=[] }:Act)=a
  have hasz:a.tmps.size=nt:=by rw [← ha,hnt];simp;omega
  have h0:FRel E w m0 M.e x x.length false (fun b=>if b=0 then m0 else none) (startSt nt k) a w:=by
    refine ⟨⟨hmem,?_,by rw [← ha],htr⟩,rfl,fun q=>(by cases q),fun s off hs=>?_,(decide_eq_false (by omega)).symm⟩
    · simp only [FSt.real,startSt,List.map_map]
      refine All2.of_get (by simp only [List.length_map,List.length_range,Array.length_toList];omega) fun s y u hy hu=>?_
      rw [List.getElem?_map] at hy
      rcases Nat.lt_or_ge s nt with q | q
      case inr=>rw [List.getElem?_eq_none (by simpa using q)] at hy;cases hy
      rw [List.getElem?_range q] at hy
      simp only [Option.map_some,Function.comp_apply,Option.some.injEq] at hy
      subst hy
      cases h0:Nat.beq s 0 with
      | true =>
        have:=Nat.eq_of_beq_eq_true h0;subst this
        have hu':u=v:=by rw [← ha] at hu;simpa using hu.symm
        subst hu'
        refine ⟨⟨?_,by simp⟩,fun g' own nf t l hb=>?_⟩
        · unfold RowVal at hrv
          split at hrv
          · obtain ⟨rfl,_⟩:=hrv;rfl
          · subst hrv;rfl
        · simp only [List.getElem?_cons_zero,Option.some.injEq,Blk.arr.injEq] at hb
          obtain ⟨rfl,rfl,rfl,rfl,hb⟩:=hb
          cases hb
          exact ⟨Nat.le_refl _,fun _=>hrv⟩
      | false =>
        cases h1:Nat.beq s 1 with
        | true =>
          have:=Nat.eq_of_beq_eq_true h1;subst this
          have hu':u = .int .i64 k:=by rw [← ha] at hu;simpa using hu.symm
          subst hu'
          exact rfl
        | false=>trivial
    · simp only [startSt] at hs
      rw [List.getElem?_map] at hs
      cases hr:(List.range nt)[s]? with
      | none=>rw [hr] at hs;cases hs
      | some s' =>
        rw [hr] at hs
        simp only [Option.map_some,Option.some.injEq] at hs
        cases h0:Nat.beq s' 0 <;> cases h1:Nat.beq s' 1 <;> simp [h0,h1] at hs
  have hp:=congrFun hpre k
  unfold preRun at hp
  refine wp_seq (wp_mono (evFCode_sound hna hEG hmk pre0 x _ _ k _ a w h0 hp) ?_)
  rintro e a1 w1 ⟨ex,st1,μ1,L1,rfl,hk,h1,hs1,hl1,hj1⟩
  cases ex with
  | exit n=>cases hk
  | ret=>cases hk
  | normal =>
  show Code.wp P _ _ a1 w1
  refine wp_seq (wp_seq (wp_mono (evFCode_sound hna hEG hmk pre1 L1 _ _ k _ a1 w1 h1 hk) ?_))
  rintro e a2 w2 ⟨ex,st2,μ2,L2,rfl,hk,h2,hs2,hl2,hj2⟩
  cases ex with
  | exit n=>cases hk
  | ret=>cases hk
  | normal =>
  show Code.wp P _ _ a2 w2
  have hL2:L2=x:=by
    refine List.ext_getElem? fun j=>?_
    by_cases e:j=x.length
    · subst e;rw [List.getElem?_eq_none (by omega),List.getElem?_eq_none (by omega)]
    · exact (hj2 j e).trans (hj1 j e)
  subst hL2
  obtain ⟨q0,q1,q2,_⟩:=headFrom_some hk
  replace q2:=q2 rfl
  have hlen2:=h2.slots_length
  have hhd:FRel E w m0 M.e L2 0 (decide (0<L2.length)) μ2 (headSt nt is k (elAt M L2 0)) a2 w2:=by
    refine h2.view (by omega) (fun s hs=>?_) (head_nest nt is k) (fun hm=>?_) rfl
    · cases h0:Nat.beq s 0 with
      | true=>have:=Nat.eq_of_beq_eq_true h0;subst this;rw [q0];exact Or.inr rfl
      | false =>
        cases h1:Nat.beq s 1 with
        | true=>have:=Nat.eq_of_beq_eq_true h1;subst this;rw [q1];exact Or.inr rfl
        | false =>
          cases h3:Nat.beq s is with
          | true=>have:=Nat.eq_of_beq_eq_true h3;subst this;rw [q2];exact Or.inr rfl
          | false=>exact Or.inl rfl
    · have hi3:0<L2.length:=of_decide_eq_true hm
      exact ⟨hi3,by unfold elAt;rw [List.getElem?_eq_getElem hi3]⟩
  have hloop:=loop_rows hna hEG hmk hround (fun k=>congrFun hstop k) L2 0 L2 k (x',k') μ2 a2 w2 (by simp) (Nat.zero_le _) hmost (by omega) hhd hsem
  refine wp_block (wp_mono (wp_loop_at hloop) ?_)
  rintro e a3 w3 ⟨L3,hL3,rfl,hsz3,st3,μ3,i3,h3,hk3⟩
  simp only [Exit.inBlock,if_true]
  show Code.wp P _ _ a3 w3
  simp only [List.take_zero,List.nil_append] at hL3
  subst hL3
  have hlen3:=h3.slots_length
  have hk4:FRel E w m0 M.e L3 L3.length false μ3 (onlyK nt k') a3 w3:=by
    refine h3.view (by omega) (fun s hs=>?_) (fun s off=>?_) (fun q=>by cases q) (decide_eq_false (by omega)).symm
    · cases h1:Nat.beq s 1 with
      | true=>have:=Nat.eq_of_beq_eq_true h1;subst this;rw [hk3];exact Or.inr rfl
      | false=>exact Or.inl rfl
    · cases Nat.beq s 1 <;> simp
  have hpo:=congrFun hpost k'
  unfold postRun at hpo
  refine wp_seq (wp_mono (evFCode_sound hna hEG hmk post L3 _ _ k' _ a3 w3 hk4 hpo) ?_)
  rintro e a4 w4 ⟨ex,st4,μ4,L4,rfl,hk,h4,hs4,hl4,hj4⟩
  cases ex with
  | exit n=>cases hk
  | ret=>cases hk
  | normal =>
  show Code.wp P _ _ a4 w4
  refine wp_ret ?_
  have hL4:L4=L3:=by
    refine List.ext_getElem? fun j=>?_
    by_cases e:j=L3.length
    · subst e;rw [List.getElem?_eq_none (by omega),List.getElem?_eq_none (by omega)]
    · exact hj4 j e
  subst hL4
  have hkk:=kFrom_some hk
  refine ⟨h4.rel.defers,.int .i64 k',?_,?_⟩
  · have hro:resOf (st4.real L4.length L4).bl M.cx (st4.real L4.length L4) fn.results.toList=some [(false,[.int .i64 k'])]:=by
      rw [hres]
      have:(st4.real L4.length L4).tmps.getD rs V.undef = .at (.int .i64 k'):=by
        simp only [FSt.real]
        rw [List.getD_eq_getElem?_getD,List.getElem?_map]
        rw [List.getD_eq_getElem?_getD] at hkk
        cases hq:st4.tmps[rs]? with
        | none=>rw [hq] at hkk;cases hkk
        | some y=>rw [hq] at hkk;have hkk:y = .int k':=hkk;subst hkk;rfl
      simp only [resOf,this]
    obtain ⟨us,g1,g2⟩:=results_sound hEG.ok h4.rel hro
    cases us with
    | nil=>exact g2.elim
    | cons u us=>cases us with
      | cons _ _=>exact g2.2.elim
      | nil =>
        have g3:u = .int .i64 k':=g2.1.1
        subst g3
        exact g1
  · subst hE
    have hm4:=h4.rel.mem
    refine ⟨rfl,mark_end hm4,?_⟩
    obtain ⟨τ,hτ⟩:=h4.rel.tree
    have hb4:(st4.real L4.length L4).bl[0]? = some (.arr 0 true true M.e L4):=rfl
    have hlx:L4.length=L2.length:=markRows_length hsem
    refine ⟨Fof μ4 τ 0,row_tree hm4 hτ hb4 (by rw [h4.lie,hlx];exact hrv),?_,fun j hj=>?_⟩
    · have hT:∀ c∈[0],Tree (st4.real L4.length L4).bl c:=fun c hc=>by
        have:c=0:=by simpa using hc
        subst this
        exact ⟨0,M.e,L4,hb4⟩
      have:=Fof_nodup hm4 hτ (bs:=[0]) (by simp) hT
      simpa using this
    · obtain ⟨n1,n2,_⟩:=Fof_mem hm4 hτ (b:=0) ⟨0,M.e,L4,hb4⟩ hj
      refine ⟨?_,n2⟩
      rcases n1 with n1 | n1
      · exact Or.inr n1
      · exact Or.inl n1
end
end Go.Proofs.YtigbabjhcihmaaaGreatDoor.Ev
namespace Go.Proofs.YtigbabjhcihmaaaGreatDoor.Ev
open Go Go.RowKit
set_option linter.unusedVariables false
set_option linter.unusedSimpArgs false
variable {ρ:Type}
structure QCx where
  cx:Cx
  mark:FuncId→Option MSpec
abbrev inl0:Inl ρ:=fun _ _ _ _ _=>none
def evQOp (Q:QCx) (o:Oper) (st:St) (K:V→St→Option ρ):Option ρ :=
  match o.op with
  | .call c=>match c.callee with
    | .value (.func f)=>match Q.mark f with
      | some m=>evWhole m (c.args.toList.map st.get) st K
      | none=>evOp Q.cx inl0 [] o st K
    | _=>evOp Q.cx inl0 [] o st K
  | _=>evOp Q.cx inl0 [] o st K
noncomputable def evQOps (Q:QCx) (all:List Oper):List Oper→St→(St→Option ρ)→Option ρ
  | [],st,K=>K st
  | o :: r,st,K=>forceSt st fun st =>
    match o.guard with
    | none=>evQOp Q o st fun v st=>evQOps Q all r (st.put o.dst v) K
    | some (j,want)=>match all[j]? with
      | some oj=>match oj.dst with
        | some d=>match st.tmps.getD d V.undef with
          | .at (.bool b) =>
            bif b then
              (bif want then evQOp Q o (st.put (some d) (.at (.bool true))) fun v st=>evQOps Q all r (st.put o.dst v) K
               else evQOps Q all r ((st.put (some d) (.at (.bool true))).put o.dst V.skipped) K)
            else
              (bif want then evQOps Q all r ((st.put (some d) (.at (.bool false))).put o.dst V.skipped) K
               else evQOp Q o (st.put (some d) (.at (.bool false))) fun v st=>evQOps Q all r (st.put o.dst v) K)
          | .tup []=>evQOps Q all r (st.put o.dst V.skipped) K
          | _=>none
        | none=>none
      | none=>none
noncomputable def evQCode (Q:QCx):Code→St→(Ex→St→Option ρ)→Option ρ
  | .skip,st,K=>K .normal st
  | .region id ops draw,st,K=>bif draw then evCode Q.cx inl0 [] (.region id ops true) st K else evQOps Q ops.toList ops.toList st (K .normal)
  | .seq a b,st,K=>evQCode Q a st fun e st=>match e with
    | .normal=>evQCode Q b st K
    | e=>K e st
  | .cond (.tmp t) a b,st,K=>match st.tmps.getD t V.undef with
    | .at (.bool c)=>bif c then evQCode Q a (st.put (some t) (.at (.bool true))) K else evQCode Q b (st.put (some t) (.at (.bool false))) K
    | _=>none
  | .block id a,st,K=>evQCode Q a st fun e st=>match e with
    | .exit i=>bif i == id then K .normal st else K (.exit i) st
    | e=>K e st
  | .exit id,st,K=>K (.exit id) st
  | .ret,st,K=>K .ret st
  | _,_,_=>none
section
variable {P:Program} {Q:QCx} {E:Env} {w0 w:World} {μ:Lie} {st:St} {a:Act} {o:Oper}
theorem inl0_ok:InlOk P E (inl0 (ρ:=ρ)):=fun _ _ _ _ _ _ _ _ _ _ _ _ _ h=>by cases h
def Frames (W:List Nat) (a a':Act):Prop:=∀ t,t ∉ W→a'.tmps[t]? = a.tmps[t]?
theorem Frames.refl (W:List Nat) (a:Act):Frames W a a:=fun _ _=>rfl
theorem Frames.trans {W:List Nat} {a b c:Act} (h:Frames W a b) (h':Frames W b c):Frames W a c:=fun t ht=>(h' t ht).trans (h t ht)
theorem Frames.put {W:List Nat} {a:Act} {d:Option Tmp} (hd:∀ t,d=some t→t∈W) (v:Value):Frames W a (a.put d v):=by
  intro t ht
  cases d with
  | none=>rfl
  | some d =>
    have:t≠d:=fun e=>ht (e ▸ hd d rfl)
    simp only [Act.put]
    rw [Array.getElem?_setIfInBounds_ne (by omega)]
theorem Frames.more {W W':List Nat} (hW:∀ t,t∈W→t∈W') {a a':Act} (h:Frames W a a'):Frames W' a a':=fun t ht=>h t fun q=>ht (hW t q)
theorem args_rep (hR:Rel E w0 μ st a w):∀ xs:List Operand,All2 (RepV E w μ st.bl) (xs.map st.get) (xs.map a.eval)
  | []=>trivial
  | x :: xs=>⟨hR.get x,args_rep hR xs⟩
theorem evQOp_sound (hcx:Q.cx.good P E.G) (hmk:∀ f m,Q.mark f=some m→m.ok P f) {K:V→St→Option ρ} {r:ρ} (hR:Rel E w0 μ st a w) (h:evQOp Q o st K=some r) {next:Act→World→Prop} {X:Exit→Act→World→Prop}
    (hn:∀ x st' μ' v w',K x st'=some r→RepV E w' μ' st'.bl x v→Rel E w0 μ' st' a w'→next (a.put o.dst v) w'):o.wp P a w next X:=by
  have plain:evOp Q.cx inl0 [] o st K=some r→o.wp P a w next X:=fun h=>evOp_sound hcx inl0_ok hR h next X fun x st' μ' v w' h1 h2 h3 _ _=>hn x st' μ' v w' h1 h2 h3
  unfold evQOp at h
  split at h
  · next c ho =>
    split at h
    · next f hf =>
      split at h
      · next m hm =>
        have hok:=hmk f m hm
        have hX:=args_rep hR c.args.toList
        unfold Oper.wp
        rw [call_run ho hok.fn hf,Oper.upon_enter]
        have harr:c.args.map a.eval=(c.args.toList.map a.eval).toArray:=by apply Array.ext';simp
        rw [harr]
        refine (evWhole_sound hok hR hX h).mono fun e w' hp=>?_
        cases e with
        | panicked c=>exact hp.elim
        | outgrown=>exact hp.elim
        | returned v =>
          obtain ⟨x,st',μ',q1,q2,q3⟩:=hp
          exact hn x st' μ' v w' q1 q2 q3
      · exact plain h
    · exact plain h
  · exact plain h
theorem evQOps_sound (hcx:Q.cx.good P E.G) (hmk:∀ f m,Q.mark f=some m→m.ok P f) {ops:Array Oper} {W:List Nat} (hW:∀ (i:Nat) (o:Oper) (d:Nat),ops.toList[i]? = some o→o.dst=some d→d∈W) {X:Exit→Act→World→Prop} {r:ρ} {K:St→Option ρ} :
    ∀ (rest:List Oper) (i:Nat) (st:St) (μ:Lie) (a:Act) (w:World),ops.toList.drop i=rest→Rel E w0 μ st a w→evQOps Q ops.toList rest st K=some r →
      (∀ st' μ' a' w',K st'=some r→Rel E w0 μ' st' a' w'→Frames W a a'→X .normal a' w')→wpOps P ops X (List.range' i rest.length) a w
  | [],i,st,μ,a,w,_,hR,h,hQ=>hQ st μ a w h hR (Frames.refl _ _)
  | o :: rest,i,st,μ,a,w,hd,hR,h,hQ=>by
    have hi:ops.toList[i]? = some o:=by
      have:=congrArg (fun l=>l[0]?) hd
      simpa using this
    have hi':ops[i]? = some o:=by rw [← Array.getElem?_toList];exact hi
    have hd':ops.toList.drop (i+1)=rest:=by
      have:=congrArg List.tail hd
      simpa using this
    have hdst:∀ t,o.dst=some t→t∈W:=fun t e=>hW i o t hi e
    have run:∀ (st1:St),Rel E w0 μ st1 a w→(evQOp Q o st1 fun v st=>evQOps Q ops.toList rest (st.put o.dst v) K)=some r→o.wp P a w (wpOps P ops X (List.range' (i+1) rest.length)) X:=by
      intro st1 r1 h1
      refine evQOp_sound hcx hmk r1 h1 fun x st' μ' v w' hk hx r'=>?_
      exact evQOps_sound hcx hmk hW rest (i+1) _ μ' _ w' hd' (r'.put o.dst hx) hk fun st2 μ2 a2 w2 q1 q2 q3=>hQ st2 μ2 a2 w2 q1 q2 ((Frames.put hdst v).trans q3)
    have skip:∀ (st1:St),Rel E w0 μ st1 a w→evQOps Q ops.toList rest (st1.put o.dst V.skipped) K=some r→wpOps P ops X (List.range' (i+1) rest.length) (a.put o.dst undef) w:=by
      intro st1 r1 h1
      exact evQOps_sound hcx hmk hW rest (i+1) _ μ _ w hd' (r1.put o.dst RepV.skipped) h1 fun st2 μ2 a2 w2 q1 q2 q3=>hQ st2 μ2 a2 w2 q1 q2 ((Frames.put hdst _).trans q3)
    rw [List.length_cons,List.range'_succ]
    unfold wpOps
    simp only [hi']
    unfold evQOps at h
    rw [forceSt_eq] at h
    split at h
    · next hg =>
      have hw:Region.wanted o (yielded ops a.tmps)=true:=by unfold Region.wanted;rw [hg]
      rw [if_pos hw]
      exact Or.inl (run st hR h)
    · next j want hg =>
      split at h
      case h_2=>cases h
      next oj hj =>
      split at h
      case h_2=>cases h
      next d hdj =>
      split at h
      case h_3=>cases h
      case h_2 hb =>
        have hval:=hR.tmp d
        rw [hb] at hval
        have hval:a.tmps.getD d undef=undef:=hval.skipped_eq
        have hy:yielded ops a.tmps j=none:=by
          unfold yielded
          rw [← Array.getElem?_toList,hj]
          simp only [Option.bind_some,hdj]
          rw [Array.getD_eq_getD_getElem?] at hval
          cases hq:a.tmps[d]? with
          | none=>rfl
          | some u =>
            rw [hq] at hval
            have hval:u=undef:=hval
            subst hval
            rfl
        have hw:Region.wanted o (yielded ops a.tmps)=false:=by unfold Region.wanted;rw [hg];simp [hy]
        rw [hw]
        exact skip st hR h
      next b hb =>
      have hval:=hR.tmp d
      rw [hb] at hval
      have hval:a.tmps.getD d undef = .bool b:=hval
      have hlt:a.tmps[d]? = some (.bool b):=by
        rw [Array.getD_eq_getD_getElem?] at hval
        cases hq:a.tmps[d]? with
        | none =>
          rw [hq] at hval
          exact absurd hval (by simp [undef])
        | some u=>rw [hq] at hval;exact congrArg some hval
      have hy:yielded ops a.tmps j=some b:=by
        unfold yielded
        rw [← Array.getElem?_toList,hj]
        simp only [Option.bind_some,hdj,hlt]
      have hw:Region.wanted o (yielded ops a.tmps)=(b == want):=by unfold Region.wanted;rw [hg];simp [hy]
      rw [hw]
      have rb:∀ c,c=b→Rel E w0 μ (st.put (some d) (.at (.bool c))) a w:=fun c e=>hR.refine (by rw [hval,e];rfl)
      cases b <;> cases want <;> simp only [cond_true,cond_false] at h
      · exact Or.inl (run _ (rb _ rfl) h)
      · exact skip _ (rb _ rfl) h
      · exact skip _ (rb _ rfl) h
      · exact Or.inl (run _ (rb _ rfl) h)
def QPost (E:Env) (w0:World) (a:Act) (W:List Nat) (K:Ex→St→Option ρ) (r:ρ) (e:Exit) (a':Act) (w':World):Prop :=
  ∃ ex st' μ',exOf ex=e∧K ex st'=some r∧Rel E w0 μ' st' a' w'∧Frames W a a'
theorem evQCode_sound (hcx:Q.cx.good P E.G) (hmk:∀ f m,Q.mark f=some m→m.ok P f):∀ (c:Code) (st:St) (K:Ex→St→Option ρ) (r:ρ) (μ:Lie) (a:Act) (w:World),Rel E w0 μ st a w→evQCode Q c st K=some r→c.wp P (QPost E w0 a (Code.writes c) K r) a w:=by
  intro c
  induction c with
  | skip =>
    intro st K r μ a w hR h
    exact wp_skip ⟨.normal,st,μ,rfl,h,hR,Frames.refl _ _⟩
  | region id ops draw =>
    intro st K r μ a w hR h
    unfold evQCode at h
    cases draw with
    | true =>
      simp only [cond_true] at h
      refine wp_mono (evCode_sound hcx inl0_ok (.region id ops true) w0 st K r μ a w hR h) ?_
      rintro e a' w' ⟨ex,st',μ',q1,q2,q3,q4,_⟩
      exact ⟨ex,st',μ',q1,q2,q3,q4.frame⟩
    | false =>
      simp only [cond_false] at h
      refine wp_region ?_
      rw [List.range_eq_range',show ops.size=ops.toList.length by simp]
      exact evQOps_sound hcx hmk (W:=opsDst ops.toList) (fun i o d h1 h2=>opsDst_mem _ i o d h1 h2) ops.toList 0 st μ a w rfl hR h fun st' μ' a' w' q1 q2 q3=>⟨.normal,st',μ',rfl,q1,q2,q3⟩
  | seq x y ihx ihy =>
    intro st K r μ a w hR h
    unfold evQCode at h
    refine wp_seq (wp_mono (ihx st _ r μ a w hR h) ?_)
    rintro e a1 w1 ⟨ex,st1,μ1,rfl,hk,hR1,f1⟩
    have out:∀ ex,K ex st1=some r→QPost E w0 a (Code.writes (.seq x y)) K r (exOf ex) a1 w1:=fun ex hk=>⟨ex,st1,μ1,rfl,hk,hR1,f1.more fun t ht=>List.mem_append_left _ ht⟩
    cases ex with
    | normal =>
      refine wp_mono (ihy st1 K r μ1 a1 w1 hR1 hk) ?_
      rintro e a2 w2 ⟨ex,st2,μ2,rfl,hk,hR2,f2⟩
      exact ⟨ex,st2,μ2,rfl,hk,hR2,(f1.more fun t ht=>List.mem_append_left _ ht).trans (f2.more fun t ht=>List.mem_append_right _ ht)⟩
    | exit i=>exact out _ hk
    | ret=>exact out _ hk
  | cond c x y ihx ihy =>
    intro st K r μ a w hR h
    cases c with
    | tmp t =>
      unfold evQCode at h
      split at h
      case h_2=>cases h
      next b hb =>
      have hv:=hR.tmp t
      rw [hb] at hv
      have hv:a.tmps.getD t undef = .bool b:=hv
      have rb:∀ c,c=b→Rel E w0 μ (st.put (some t) (.at (.bool c))) a w:=fun c e=>hR.refine (by rw [hv,e];rfl)
      cases b with
      | true =>
        simp only [cond_true] at h
        refine wp_cond_true hv (wp_mono (ihx _ K r μ a w (rb _ rfl) h) ?_)
        rintro e a2 w2 ⟨ex,st2,μ2,rfl,hk,hR2,f2⟩
        exact ⟨ex,st2,μ2,rfl,hk,hR2,f2.more fun t ht=>by simp [Code.writes,ht]⟩
      | false =>
        simp only [cond_false] at h
        refine wp_cond_false hv (wp_mono (ihy _ K r μ a w (rb _ rfl) h) ?_)
        rintro e a2 w2 ⟨ex,st2,μ2,rfl,hk,hR2,f2⟩
        exact ⟨ex,st2,μ2,rfl,hk,hR2,f2.more fun t ht=>by simp [Code.writes,ht]⟩
    | const v=>unfold evQCode at h;cases h
    | global g=>unfold evQCode at h;cases h
    | func f=>unfold evQCode at h;cases h
  | block id x ih =>
    intro st K r μ a w hR h
    unfold evQCode at h
    refine wp_block (wp_mono (ih st _ r μ a w hR h) ?_)
    rintro e a1 w1 ⟨ex,st1,μ1,rfl,hk,hR1,f1⟩
    cases ex with
    | normal=>exact ⟨.normal,st1,μ1,rfl,hk,hR1,f1⟩
    | ret=>exact ⟨.ret,st1,μ1,rfl,hk,hR1,f1⟩
    | exit i =>
      simp only [exOf,Exit.inBlock]
      by_cases hi:i=id
      · subst hi
        simp only [beq_self_eq_true,cond_true] at hk
        rw [if_pos rfl]
        exact ⟨.normal,st1,μ1,rfl,hk,hR1,f1⟩
      · have:(i == id)=false:=by simpa using hi
        simp only [this,cond_false] at hk
        rw [if_neg hi]
        exact ⟨.exit i,st1,μ1,rfl,hk,hR1,f1⟩
  | exit id =>
    intro st K r μ a w hR h
    exact wp_exit ⟨.exit id,st,μ,rfl,h,hR,Frames.refl _ _⟩
  | ret =>
    intro st K r μ a w hR h
    exact wp_ret ⟨.ret,st,μ,rfl,h,hR,Frames.refl _ _⟩
  | loop x _=>intro st K r μ a w hR h;unfold evQCode at h;cases h
  | rangeFunc f ps x y _ _=>intro st K r μ a w hR h;unfold evQCode at h;cases h
  | scope x _=>intro st K r μ a w hR h;unfold evQCode at h;cases h
  | label l=>intro st K r μ a w hR h;unfold evQCode at h;cases h
  | goto l=>intro st K r μ a w hR h;unfold evQCode at h;cases h
  | refuse=>intro st K r μ a w hR h;unfold evQCode at h;cases h
end
end Go.Proofs.YtigbabjhcihmaaaGreatDoor.Ev
namespace Go.Proofs.YtigbabjhcihmaaaGreatDoor.Ev
open Go Go.RowKit
set_option linter.unusedVariables false
set_option linter.unusedSimpArgs false
variable {ρ:Type}
theorem getD_append_left {α:Type} {xs ys:List α} {i:Nat} {d:α} (h:i<xs.length):(xs++ys).getD i d=xs.getD i d:=by
  rw [List.getD_eq_getElem?_getD,List.getElem?_append_left h,← List.getD_eq_getElem?_getD]
theorem getD_append_right {α:Type} {xs ys:List α} {i:Nat} {d:α} (h:¬ i<xs.length):(xs++ys).getD i d=ys.getD (i-xs.length) d:=by
  rw [List.getD_eq_getElem?_getD,List.getElem?_append_right (by omega),← List.getD_eq_getElem?_getD]
theorem getD_out {α:Type} {xs:List α} {i:Nat} {d:α} (h:¬ i<xs.length):xs.getD i d=d:=by
  rw [List.getD_eq_getElem?_getD,List.getElem?_eq_none (by omega)];rfl
theorem HoldsT.own {w:World}:∀ {t:Ty} {x:t.den} {vs:List Value} {F:List Nat},HoldsT w t x vs F→∃ (ms:List (Option (Nat × Nat))) (Gs:List (List Nat)),Gs.length=ms.length∧ms.length=t.rows∧Gs.flatten=F ∧
    (∀ S:Nat→Prop,(∀ i k,k∈(Gs.getD i []).tail→S k)→OwnHolds w S t x vs ms) ∧
    ∀ (i:Nat) (blk:Blk),(t.ownRows true x)[i]? = some blk→∃ e l,blk = .arr 0 true true e l∧NestT w e l (ms.getD i none) (Gs.getD i []).tail∧((ms.getD i none=none∧Gs.getD i []=[])∨∃ k c tl,ms.getD i none=some (k,c)∧Gs.getD i []=k :: tl)
  | .int k,n,vs,F,h=>by obtain ⟨rfl,rfl⟩:=h;exact ⟨[],[],rfl,rfl,rfl,fun S _=>⟨rfl,rfl⟩,fun i blk hi=>by simp [Ty.ownRows] at hi⟩
  | .bool,n,vs,F,h=>by obtain ⟨rfl,rfl⟩:=h;exact ⟨[],[],rfl,rfl,rfl,fun S _=>⟨rfl,rfl⟩,fun i blk hi=>by simp [Ty.ownRows] at hi⟩
  | .str,n,vs,F,h=>by obtain ⟨rfl,rfl⟩:=h;exact ⟨[],[],rfl,rfl,rfl,fun S _=>⟨rfl,rfl⟩,fun i blk hi=>by simp [Ty.ownRows] at hi⟩
  | .adr,n,vs,F,h=>by obtain ⟨h,rfl⟩:=h;exact ⟨[],[],rfl,rfl,rfl,fun S _=>⟨rfl,h⟩,fun i blk hi=>by simp [Ty.ownRows] at hi⟩
  | .err,n,vs,F,h=>by obtain ⟨h,rfl⟩:=h;exact ⟨[],[],rfl,rfl,rfl,fun S _=>⟨rfl,h⟩,fun i blk hi=>by simp [Ty.ownRows] at hi⟩
  | .slice e,l,vs,F,h=>by
    simp only [HoldsT] at h
    obtain ⟨v,rfl,h⟩:=h
    rcases h with ⟨rfl,rfl,rfl⟩ | ⟨k,cap,cells,ty,fz,Fs,rfl,h2,h3,h4,h5,rfl,h7,h8⟩
    · refine ⟨[none],[[]],rfl,rfl,rfl,fun S _=>⟨_,none,rfl,rfl,⟨rfl,rfl⟩,Or.inl ⟨rfl,rfl⟩⟩,fun i blk hi=>?_⟩
      cases i with
      | succ i=>simp [Ty.ownRows] at hi
      | zero =>
        simp only [Ty.ownRows,List.getElem?_cons_zero,Option.some.injEq] at hi
        exact ⟨e,[],hi.symm,Or.inl ⟨rfl,rfl⟩,Or.inl ⟨rfl,rfl⟩⟩
    · refine ⟨[some (k,cap)],[k :: Fs.flatten],rfl,rfl,by simp,fun S hS=>⟨_,some (k,cap),rfl,rfl,rfl,Or.inr ⟨k,cap,cells,ty,fz,rfl,h2,h3,h4,h5,fun i hi=>?_⟩⟩,fun i blk hi=>?_⟩
      · exact (h8 i hi).holds.weaken fun q hq _=>hS 0 q (mem_flatten_getD hq)
      · cases i with
        | succ i=>simp [Ty.ownRows] at hi
        | zero =>
          simp only [Ty.ownRows,List.getElem?_cons_zero,Option.some.injEq] at hi
          exact ⟨e,l,hi.symm,Or.inr ⟨k,cap,cells,ty,fz,Fs,rfl,h2,rfl,h7,h8⟩,Or.inr ⟨k,cap,_,rfl,rfl⟩⟩
  | .pair a b,x,vs,F,h=>by
    simp only [HoldsT] at h
    obtain ⟨us,ws,F1,F2,rfl,rfl,h1,h2⟩:=h
    obtain ⟨m1,G1,a1,a2,a3,a4,a5⟩:=h1.own
    obtain ⟨m2,G2,b1,b2,b3,b4,b5⟩:=h2.own
    have o1:=ownRows_length true a x.1
    refine ⟨m1++m2,G1++G2,by simp only [List.length_append,a1,b1],by simp only [List.length_append,Ty.rows,a2,b2],by rw [List.flatten_append,a3,b3],fun S hS=>⟨us,ws,m1,m2,rfl,rfl,a4 S fun i k hk=>?_,b4 S fun i k hk=>?_⟩,fun i blk hi=>?_⟩
    · by_cases hlt:i<G1.length
      · exact hS i k (by rw [getD_append_left hlt];exact hk)
      · rw [getD_out hlt] at hk;cases hk
    · exact hS (G1.length+i) k (by rw [getD_append_right (by omega),Nat.add_sub_cancel_left];exact hk)
    · rw [Ty.ownRows] at hi
      by_cases hlt:i<m1.length
      · rw [List.getElem?_append_left (by omega)] at hi
        rw [getD_append_left hlt,getD_append_left (by omega)]
        exact a5 i blk hi
      · rw [List.getElem?_append_right (by omega),o1,← a2] at hi
        rw [getD_append_right hlt,getD_append_right (by omega),a1]
        exact b5 _ blk hi
  | .struct b,x,vs,F,h=>HoldsT.own (t:=b) h
noncomputable def wholeRun (Q:QCx) (nt rs:Nat) (c:Code) (t:Ty) (x:t.den) (k:Int):Option (t.den × Int) :=
  evQCode Q c { tmps:=enter nt [.agg (t.own x 0),.at (.int .i64 k)],bl:=t.ownRows true x,lock:=[] } fun ex st=>match ex with
    | .exit _=>none
    | _=>match st.tmps.getD rs V.undef with
      | .at (.int .i64 k')=>(match t.ofV false st.bl (st.tmps.getD 0 V.undef),movable st.bl (st.tmps.getD 0 V.undef).cells with
        | some x',some bs=>bif apartAll bs then some (x',k') else none
        | _,_=>none)
      | _=>none
noncomputable def lawRun (Q:QCx) (nt rs:Nat) (c:Code) (params:List Ty) (xs:List V):Option Bool :=
  evQCode Q c { tmps:=enter nt xs,bl:=[],lock:=[] } fun ex st=>match ex with
    | .exit _=>none
    | _=>match st.tmps.getD rs V.undef with
      | .at (.bool b)=>some b
      | _=>none
def Ty.toOld:(t:Ty)→t.den→V
  | .struct b,x=>.agg (b.olds x)
  | .int k,n=>.at (.int k n)
  | .bool,b=>.at (.bool b)
  | .str,s=>.at (.str s)
  | .err,b=>.at (.err b)
  | .adr,_=>.at .undef
  | .slice e,l=>.at (.old e l)
  | .pair _ _,_=>V.undef
def giveOlds:(ts:List Ty)→denL ts→List V
  | [],_=>[]
  | t :: ts,x=>t.toOld x.1 :: giveOlds ts x.2
section
variable {P:Program} {Q:QCx} {E:Env} {w0 w:World} {μ:Lie} {st:St} {a:Act} {o:Oper}
theorem slot_results (hcx:Q.cx.ok P) (hR:Rel E w0 μ st a w) {fn:Func} {rs:Nat} (hres:fn.results=#[.tmp rs]) {c:A} (hc:st.tmps.getD rs V.undef = .at c) (hu:c ≠ .undef):∃ v,(results fn a.tmps).run P w = .ok v w∧RepA E w μ st.bl c v:=by
  have hro:resOf st.bl Q.cx st fn.results.toList=some [(false,[c])]:=by
    rw [hres]
    show resOf st.bl Q.cx st [.tmp rs]=_
    simp only [resOf,hc]
  obtain ⟨us,g1,g2⟩:=results_sound hcx hR hro
  cases us with
  | nil=>exact g2.elim
  | cons u us=>cases us with
    | cons _ _=>exact g2.2.elim
    | nil=>exact ⟨u,g1,g2.1.1⟩
theorem whole_ok (hcx:Q.cx.good P fun _=>True) (hmk:∀ f m,Q.mark f=some m→m.ok P f) {f:FuncId} {fn:Func} (hfn:P.funcs[f]? = some fn) (hname:fn.name ≠ "runtime.NumGoroutine") {c:Code} {nt rs:Nat} (hbody:fn.body=some c) (hnt:fn.ntmps=nt) (hres:fn.results=#[.tmp rs]) (hlt:1<nt)
    (hw:(Code.writes c).contains 0=false) {t:Ty} (hag:t.isAgg=true) {sem:t.den→Int→Option (t.den × Int)} (hsem:wholeRun Q nt rs c t=sem):MSpec.ok P f ⟨t,sem⟩:=by
  refine ⟨⟨fn,hfn,hname,by rw [hbody];rfl⟩,fun w v x F k x' k' hT hnd hFl hs=>?_⟩
  have hs:sem x k=some (x',k'):=hs
  rw [← hsem] at hs
  unfold HoldsTV at hT
  simp only at hT
  rw [hag] at hT
  obtain ⟨vs,rfl,hT⟩:=hT
  obtain ⟨ms,Gs,l1,l2,hF,hown,hrows⟩:=hT.own
  subst hF
  have hrl:(t.ownRows true x).length=ms.length:=by rw [ownRows_length,l2]
  have hGn:∀ i,(Gs.getD i []).Nodup:=nodup_getD hnd
  have hGa:∀ i j k,k∈Gs.getD i []→k∈Gs.getD j []→i=j:=nodup_apart hnd
  have hhead:∀ b k c,ms.getD b none=some (k,c)→∃ tl,Gs.getD b []=k :: tl:=by
    intro b k c hb
    have hblt:b<ms.length:=by
      rcases Nat.lt_or_ge b ms.length with q | q
      · exact q
      · rw [getD_out (by omega)] at hb;cases hb
    obtain ⟨e,l,_,_,q⟩:=hrows b _ (List.getElem?_eq_getElem (by omega))
    rcases q with ⟨q,_⟩ | ⟨k2,c2,tl,q1,q2⟩
    · rw [hb] at q;cases q
    · rw [hb] at q1;cases q1;exact ⟨tl,q2⟩
  have hOwn:∀ (bl:List Blk) j,Own (fun b=>ms.getD b none) bl j→∃ b,j∈Gs.getD b []∧j ∉ (Gs.getD b []).tail:=by
    rintro bl j ⟨b,c,hb,_⟩
    obtain ⟨tl,htl⟩:=hhead b j c hb
    refine ⟨b,by rw [htl];simp,?_⟩
    have:=hGn b
    rw [htl] at this ⊢
    exact (List.nodup_cons.mp this).1
  have hnotOwn:∀ (bl:List Blk) i j,j∈(Gs.getD i []).tail→¬ Own (fun b=>ms.getD b none) bl j:=by
    intro bl i j hj ho
    obtain ⟨b,h1,h2⟩:=hOwn bl j ho
    have:=hGa i b j (List.mem_of_mem_tail hj) h1
    subst this
    exact h2 hj
  refine calls_of_wp hfn hbody ?_
  generalize hE:Env.mark w Gs.flatten=E
  have hEG:Q.cx.good P E.G:=by rw [← hE];exact hcx
  have hD:∀ k,(∃ i,k∈(Gs.getD i []).tail)→E.D (fun b=>ms.getD b none) (t.ownRows true x) true k:=by
    rintro k ⟨i,hi⟩
    refine ⟨Or.inl ?_,hnotOwn _ i k hi⟩
    rw [← hE]
    exact Or.inr (mem_flatten_getD (List.mem_of_mem_tail hi))
  have hO:=hown (fun k=>∃ i,k∈(Gs.getD i []).tail) fun i k hk=>⟨i,hk⟩
  have hN:∀ k c,some (k,c)∈ms→E.N k:=by
    intro k c hk
    obtain ⟨b,hb⟩:=List.getElem?_of_mem hk
    obtain ⟨tl,htl⟩:=hhead b k c (by rw [List.getD_eq_getElem?_getD,hb];rfl)
    rw [← hE]
    exact Or.inr (mem_flatten_getD (i:=b) (by rw [htl];simp))
  have hm0:Mem E w w (fun b=>ms.getD b none) (t.ownRows true x):=by
    refine ⟨fun _ _=>by rw [← hE];trivial,Env.Apart.refl _ _,by rw [← hE];exact Nat.le_refl _,fun b blk hb=>own_blocks hD hO hN b blk hb b rfl,fun b b' k c c' h1 h2 _ _=>?_⟩
    obtain ⟨t1,h1⟩:=hhead b k c h1
    obtain ⟨t2,h2⟩:=hhead b' k c' h2
    exact hGa b b' k (by rw [h1];simp) (by rw [h2];simp)
  have ht0:Trees E w (fun b=>ms.getD b none) (t.ownRows true x):=by
    refine ⟨fun b=>(Gs.getD b []).tail,fun b g u l hb=>?_,fun b hT k hk=>?_,fun b hT=>(hGn b).sublist (List.tail_sublist _),fun b b' hT hT' hne k hk hk'=>hne (hGa b b' k (List.mem_of_mem_tail hk) (List.mem_of_mem_tail hk'))⟩
    · obtain ⟨e,l',q1,q2,_⟩:=hrows b _ hb
      cases q1
      exact q2
    · have hkF:=mem_flatten_getD (List.mem_of_mem_tail hk)
      exact ⟨by rw [← hE];exact Or.inr hkF,hFl k hkF,hnotOwn _ b k hk⟩
  generalize ha:({ tmps:=#[.agg vs.toArray,.int .i64 k]++Array.replicate (fn.ntmps-(#[.agg vs.toArray,.int .i64 k]:Array Value).size) undef,defers:=[] }:Act)=a
  have hR0:Rel E w (fun b=>ms.getD b none) { tmps:=enter nt [.agg (t.own x 0),.at (.int .i64 k)],bl:=t.ownRows true x,lock:=[] } a w:=by
    refine ⟨hm0,?_,by rw [← ha],ht0⟩
    rw [← ha]
    simp only [enter,Array.toList_append,Array.toList_replicate,List.size_toArray,hnt]
    refine ⟨⟨vs,rfl,own_sound (nf:=true) (fun _ _ _ _ _=>trivial) 0 hO fun i hi=>⟨by rw [Nat.zero_add],by rw [Nat.zero_add]⟩⟩,rfl,?_⟩
    show All2 _ (List.replicate (nt-2) V.undef) (List.replicate (nt-2) undef)
    generalize nt-2=m
    induction m with
    | zero=>trivial
    | succ m ih=>exact ⟨RepV.undef,ih⟩
  unfold wholeRun at hs
  refine wp_mono (evQCode_sound hEG hmk c _ _ _ _ a w hR0 hs) ?_
  rintro e a' w' ⟨ex,st',μ',rfl,hk,hR',hfr⟩
  have h0W:(0:Nat) ∉ Code.writes c:=by
    rw [List.contains_eq_mem] at hw
    simpa using hw
  have ha0:a'.tmps.getD 0 undef = .agg vs.toArray:=by
    rw [Array.getD_eq_getD_getElem?,hfr 0 h0W,← ha]
    rw [Array.getElem?_append_left (by simp)]
    rfl
  have fin:(match st'.tmps.getD rs V.undef with
      | .at (.int .i64 k')=>(match t.ofV false st'.bl (st'.tmps.getD 0 V.undef),movable st'.bl (st'.tmps.getD 0 V.undef).cells with
        | some x',some bs=>bif apartAll bs then some (x',k') else none
        | _,_=>none)
      | _=>none)=some (x',k')→a'.defers=[]∧∃ v,(results fn a'.tmps).run P w' = .ok v w'∧(v = .int .i64 k'∧Marked Gs.flatten w w'∧∃ F',HoldsTV w' t x' (.agg vs.toArray) F'∧F'.Nodup∧∀ j∈F',(j∈Gs.flatten∨w.heap.size≤j)∧j<w'.heap.size):=by
    intro hk
    split at hk
    case h_2=>cases hk
    next k2 hk2 =>
    split at hk
    case h_2=>cases hk
    next x2 bs hx2 hbs =>
    have hap:=(cond_none hk).1
    replace hk:=(cond_none hk).2
    cases hk
    obtain ⟨v,g1,g2⟩:=slot_results hEG.ok hR' hres hk2 (by simp)
    have g2:v = .int .i64 k':=g2
    subst g2
    refine ⟨hR'.defers,_,g1,rfl,?_⟩
    obtain ⟨τ,hτ⟩:=hR'.tree
    have hv0:=hR'.tmp 0
    rw [ha0] at hv0
    have htree:=ofV_tree hR'.mem hτ hv0 hx2 hbs
    have hTr:=movable_tree hbs
    subst hE
    refine ⟨mark_end hR'.mem,bs.flatMap (Fof μ' τ),?_,Fof_nodup hR'.mem hτ (apartAll_nodup hap) hTr,fun j hj=>?_⟩
    · unfold HoldsTV
      rw [hag]
      exact ⟨vs,rfl,htree⟩
    · obtain ⟨b,hb,hj⟩:=List.mem_flatMap.mp hj
      obtain ⟨n1,n2,_⟩:=Fof_mem hR'.mem hτ (hTr b hb) hj
      refine ⟨?_,n2⟩
      rcases n1 with n1 | n1
      · exact Or.inr n1
      · exact Or.inl n1
  cases ex with
  | exit n=>cases hk
  | normal =>
    obtain ⟨h1,v,h2,h3⟩:=fin hk
    exact ⟨h1,v,h2,h3⟩
  | ret =>
    obtain ⟨h1,v,h2,h3⟩:=fin hk
    exact ⟨h1,v,h2,h3⟩
theorem Holds.oldCells {w:World} {S:Nat→Prop} (hS:∀ k,S k→k<w.heap.size→E.O μ [] k):∀ {t:Ty} {x:t.den} {vs:List Value},Holds w S t x vs→RepAs E w μ [] (t.olds x) vs
  | .int k,n,vs,h=>by simp only [Holds] at h;subst h;exact ⟨rfl,trivial⟩
  | .bool,b,vs,h=>by simp only [Holds] at h;subst h;exact ⟨rfl,trivial⟩
  | .str,s,vs,h=>by simp only [Holds] at h;subst h;exact ⟨rfl,trivial⟩
  | .err,b,vs,h=>by simp only [Holds] at h;obtain ⟨v,rfl,h⟩:=h;exact ⟨h,trivial⟩
  | .adr,b,vs,h=>by simp only [Holds] at h;obtain ⟨v,rfl,h⟩:=h;exact ⟨h,trivial⟩
  | .slice e,l,vs,h=>by
    have h':=h
    simp only [Holds] at h'
    obtain ⟨a,cap,rfl,_⟩:=h'
    exact ⟨h.weaken hS,trivial⟩
  | .pair a b,x,vs,h=>by
    simp only [Holds] at h
    obtain ⟨us,ws,rfl,h1,h2⟩:=h
    exact All2.append (Holds.oldCells hS h1) (Holds.oldCells hS h2)
  | .struct b,x,vs,h=>by simp only [Holds] at h;exact Holds.oldCells hS (t:=b) h
theorem giveOlds_sound {S:Nat→Prop} {G:World→Prop}:∀ (ts:List Ty) (x:denL ts) (vs:List Value),ArgsHold w S ts x vs→All2 (RepV (Env.of w.heap.size S G) w (fun _=>none) []) (giveOlds ts x) vs
  | [],_,[],_=>trivial
  | [],_,_ :: _,h=>h.elim
  | t :: ts,x,[],h=>h.elim
  | t :: ts,x,v :: vs,h=>by
    refine ⟨?_,giveOlds_sound ts x.2 vs h.2⟩
    have h1:=h.1
    have hS:∀ k,S k→k<w.heap.size→Env.O (Env.of w.heap.size S G) (fun _=>none) [] k:=fun k hk hlt=>⟨⟨by show ¬ w.heap.size≤k;omega,hk⟩,fun ⟨b,c,e,_⟩=>by cases e⟩
    unfold ValHolds at h1
    cases t with
    | struct b =>
      obtain ⟨us,e,hh⟩:=h1
      exact ⟨us,e,Holds.oldCells hS (t:=.struct b) hh⟩
    | pair a b=>exact RepV.undef
    | int k=>have h1:[v]=[Value.int k x.1]:=h1;cases h1;exact rfl
    | bool=>have h1:[v]=[Value.bool x.1]:=h1;cases h1;exact rfl
    | str=>have h1:[v]=[Value.string x.1]:=h1;cases h1;exact rfl
    | err=>obtain ⟨u,e,h2⟩:=h1;cases e;exact h2
    | adr=>trivial
    | slice e=>exact Holds.weaken hS (t:=.slice e) h1
theorem law_ok {G:World→Prop} (hcx:Q.cx.good P G) (hmk:∀ f m,Q.mark f=some m→m.ok P f) {f:FuncId} {fn:Func} (hfn:P.funcs[f]? = some fn) (hname:fn.name ≠ "runtime.NumGoroutine") {c:Code} {nt rs:Nat} (hbody:fn.body=some c) (hnt:fn.ntmps=nt) (hres:fn.results=#[.tmp rs])
    {params:List Ty} {sem:denL params→Option Bool} (hsem:(fun x=>lawRun Q nt rs c params (giveOlds params x))=sem):CSpec.ok P G f { params:=params,res:=[(.bool,false)],fresh:=true,sem:=sem }:=by
  refine ⟨⟨fn,hfn,hname,by rw [hbody];rfl⟩,fun w hG S args x r hargs hs=>?_⟩
  have hs:sem x=some r:=hs
  rw [← hsem] at hs
  refine calls_of_wp hfn hbody ?_
  have hX:=giveOlds_sound (w:=w) (G:=G) _ _ _ hargs
  have hlen:=hX.length
  have hm0:Mem (Env.of w.heap.size S G) w w (fun _=>none) []:=⟨fun w' hb=>hcx.goes w w' hG (Env.Apart.of hb),Env.Apart.refl _ w,Nat.le_refl _,fun b blk hb=>by simp at hb,fun b b' k c c' h1=>by cases h1⟩
  have hR:Rel (Env.of w.heap.size S G) w (fun _=>none) { tmps:=enter nt (giveOlds params x),bl:=[],lock:=[] } { tmps:=args.toArray++Array.replicate (fn.ntmps-args.toArray.size) undef,defers:=[] } w:=by
    refine ⟨hm0,?_,rfl,Trees.nil⟩
    simp only [enter,Array.toList_append,Array.toList_replicate,List.size_toArray]
    rw [hlen,hnt]
    refine hX.append ?_
    generalize nt-args.length=m
    induction m with
    | zero=>trivial
    | succ m ih=>exact ⟨RepV.undef,ih⟩
  simp only at hs
  unfold lawRun at hs
  refine wp_mono (evQCode_sound (E:=Env.of w.heap.size S G) hcx hmk c _ _ r _ _ w hR hs) ?_
  rintro e a' w' ⟨ex,st',μ',rfl,hk,hR',hfr⟩
  have fin:(match st'.tmps.getD rs V.undef with
      | .at (.bool b)=>some b
      | _=>none)=some r→a'.defers=[]∧∃ v,(results fn a'.tmps).run P w' = .ok v w'∧CSpec.post { params:=params,res:=[(.bool,false)],fresh:=true,sem:=sem } w S r v w':=by
    intro hk
    split at hk
    case h_2=>cases hk
    next b hb =>
    cases hk
    obtain ⟨v,g1,g2⟩:=slot_results hcx.ok hR' hres hb (by simp)
    have g2:v = .bool r:=g2
    subst g2
    exact ⟨hR'.defers,_,g1,Env.Apart.of hR'.mem.below,[.bool r],[],rfl,⟨fun k c h=>by simp at h,fun i j k c c' h=>by simp at h⟩,⟨rfl,rfl⟩,[],NewTrees.none fun i g t l h=>by simp [giveRes,oneRes] at h⟩
  cases ex with
  | exit i=>cases hk
  | normal =>
    obtain ⟨h1,v,h2,h3⟩:=fin hk
    exact ⟨h1,v,h2,h3⟩
  | ret =>
    obtain ⟨h1,v,h2,h3⟩:=fin hk
    exact ⟨h1,v,h2,h3⟩
end
end Go.Proofs.YtigbabjhcihmaaaGreatDoor.Ev
namespace Go.Proofs.YtigbabjhcihmaaaGreatDoor.Ev
open Go Go.RowKit
set_option linter.unusedVariables false
set_option linter.unusedSimpArgs false
def mkC (text:Int→Option ByteArray):(t:Ty)→{ρ:Type}→t.den→Int→(t.den→Int→Option ρ)→Option ρ
  | .int .i64,_,_,n,K=>K n (wr .i64 (n+1))
  | .int _,_,_,_,_=>none
  | .bool,_,_,n,K=>bif decide ((3:Int)=0) then none else K (decide (n.tmod 3=0)) (wr .i64 (n+1))
  | .str,_,_,n,K=>(text n).bind fun s=>K s (wr .i64 (n+1))
  | .err,_,_,_,_=>none
  | .adr,_,_,_,_=>none
  | .slice e,_,l,n,K=>(markAll (fun x n=>mkC text e x n fun y n=>some (y,n)) l n).bind fun y=>K y.1 y.2
  | .pair a b,_,x,n,K=>mkC text a x.1 n fun u n=>mkC text b x.2 n fun v n=>K (u,v) n
  | .struct b,_,x,n,K=>mkC text b x n K
def moC (text:Int→Option ByteArray):(t:Ty)→{ρ:Type}→t.den→Int→(t.den→Int→Option ρ)→Option ρ
  | .slice e,_,l,n,K=>(markAll (fun x n=>mkC text e x n fun y n=>some (y,n)) l n).bind fun y=>K y.1 y.2
  | .pair a b,_,x,n,K=>moC text a x.1 n fun u n=>moC text b x.2 n fun v n=>K (u,v) n
  | .struct b,_,x,n,K=>(moC text b x n fun y n=>some (y,n)).bind fun y=>K y.1 y.2
  | .int _,_,x,n,K=>K x n
  | .bool,_,x,n,K=>K x n
  | .str,_,x,n,K=>K x n
  | .err,_,x,n,K=>K x n
  | .adr,_,x,n,K=>K x n
abbrev mkStep (text:Int→Option ByteArray) (e:Ty) (x:e.den) (n:Int):Option (e.den × Int):=mkC text e x n fun y n=>some (y,n)
def hdAll {α:Type} (k:Nat) (body:(Option Int→Option Int)→α→Int→(Int→Option Int)→Option Int) (z:α) (a:List α) (n:Int):Option Int :=
  iter (σ:=Int × Int × Unit) (fun rec x=>bif decide (x.2.1<(a.length:Int)) then body (fun o=>bif decide (0≤x.2.1∧x.2.1<(a.length:Int)) then o else none) (a.getD x.2.1.toNat z) x.1 (fun n'=>rec (n',wrap64 (x.2.1+1),())) else some x.1) k (n,0,())
def hdC (k:Nat) (text:Int→Option ByteArray):(t:Ty)→(Option Int→Option Int)→t.den→Int→(Int→Option Int)→Option Int
  | .int .i64,chk,v,n,K=>chk (bif (!decide ((v:Int)=n)) then some (-1) else K (wrap64 (n+1)))
  | .int _,_,_,_,_=>none
  | .bool,chk,v,n,K=>chk (bif decide ((3:Int)=0) then none else bif (!(v == decide (n.tmod 3=0))) then some (-1) else K (wrap64 (n+1)))
  | .str,chk,v,n,K=>chk ((text n).bind fun r=>bif (!decide (v=r)) then some (-1) else K (wrap64 (n+1)))
  | .err,_,_,_,_=>none
  | .adr,_,_,_,_=>none
  | .slice e,chk,l,n,K=>chk ((hdAll k (hdC k text e) e.zero l n).bind fun r=>bif decide (r<0) then some (-1) else K r)
  | .pair a b,chk,x,n,K=>hdC k text a chk x.1 n fun n=>hdC k text b chk x.2 n K
  | .struct b,chk,x,n,K=>hdC k text b chk x n K
def hoC (k:Nat) (text:Int→Option ByteArray):(t:Ty)→t.den→Int→(Int→Option Int)→Option Int
  | .slice e,l,n,K=>(hdAll k (hdC k text e) e.zero l n).bind fun r=>bif decide (r<0) then some (-1) else K r
  | .pair a b,x,n,K=>hoC k text a x.1 n fun n=>hoC k text b x.2 n K
  | .struct b,x,n,K=>(hoC k text b x n fun n=>some n).bind fun r=>bif decide (r<0) then some (-1) else K r
  | .int _,_,n,K=>K n
  | .bool,_,n,K=>K n
  | .str,_,n,K=>K n
  | .err,_,n,K=>K n
  | .adr,_,n,K=>K n
@[reducible] def Ty.inner:Ty→Ty
  | .struct b=>b
  | t=>t
def cnt:(t:Ty)→t.den→Nat
  | .int _,_=>1
  | .bool,_=>1
  | .str,_=>1
  | .err,_=>1
  | .adr,_=>1
  | .slice e,l=>(l.map (cnt e)).sum
  | .pair a b,x=>cnt a x.1+cnt b x.2
  | .struct b,x=>cnt b x
def cno:(t:Ty)→t.den→Nat
  | .slice e,l=>(l.map (cnt e)).sum
  | .pair a b,x=>cno a x.1+cno b x.2
  | .struct b,x=>cno b x
  | _,_=>0
def mkvs {α:Type} (f:α→Int→α) (c:α→Nat):List α→Int→List α
  | [],_=>[]
  | x :: r,n=>f x n :: mkvs f c r (n+c x)
def mkv (tx:Int→ByteArray):(t:Ty)→t.den→Int→t.den
  | .int _,_,n=>n
  | .bool,_,n=>decide (n.tmod 3=0)
  | .str,_,n=>tx n
  | .err,b,_=>b
  | .adr,b,_=>b
  | .slice e,l,n=>mkvs (mkv tx e) (cnt e) l n
  | .pair a b,x,n=>(mkv tx a x.1 n,mkv tx b x.2 (n+cnt a x.1))
  | .struct b,x,n=>mkv tx b x n
def mov (tx:Int→ByteArray):(t:Ty)→t.den→Int→t.den
  | .slice e,l,n=>mkvs (mkv tx e) (cnt e) l n
  | .pair a b,x,n=>(mov tx a x.1 n,mov tx b x.2 (n+cno a x.1))
  | .struct b,x,n=>mov tx b x n
  | .int _,x,_=>x
  | .bool,x,_=>x
  | .str,x,_=>x
  | .err,x,_=>x
  | .adr,x,_=>x
def Ty.plain:Ty→Bool
  | .int .i64=>true
  | .int _=>false
  | .bool=>true
  | .str=>true
  | .err=>false
  | .adr=>false
  | .slice e=>e.plain
  | .pair a b=>a.plain&&b.plain
  | .struct b=>b.plain
def Ty.fits (m:Nat):(t:Ty)→t.den→Prop
  | .slice e,l=>l.length≤m∧∀ x∈l,e.fits m x
  | .pair a b,x=>a.fits m x.1∧b.fits m x.2
  | .struct b,x=>b.fits m x
  | .int _,_=>True
  | .bool,_=>True
  | .str,_=>True
  | .err,_=>True
  | .adr,_=>True
def Ty.wid:Ty→Nat
  | .slice _=>0
  | .pair a b=>a.wid+b.wid
  | .struct b=>b.wid
  | _=>1
def Ty.deep (W:Nat):Ty→Bool
  | .slice e=>Nat.ble e.wid W&&e.deep W
  | .pair a b=>a.deep W&&b.deep W
  | .struct b=>b.deep W
  | _=>true
abbrev top:Int:=1099511627776
theorem wr_next {n:Int} (h0:0≤n) (h1:n<top):wr .i64 (n+1)=n+1:=by
  unfold top at h1
  exact wr_small (by omega) (by omega)
theorem wrap_next {n:Int} (h0:0≤n) (h1:n<top):wrap64 (n+1)=n+1:=wr_next h0 h1
theorem markRows_eq {α:Type} {step:α→Int→Option (α × Int)} {f:α→Int→α} {c:α→Nat}:∀ (l:List α) (n:Int),(∀ x∈l,∀ n,0≤n→n+c x≤top→step x n=some (f x n,n+c x))→0≤n→n+(l.map c).sum≤top →
    markRows step l n=some (mkvs f c l n,n+(l.map c).sum)
  | [],n,h,h0,h1=>by simp [markRows,mkvs]
  | x :: r,n,h,h0,h1=>by
    simp only [List.map_cons,List.sum_cons,Int.natCast_add] at h1 ⊢
    simp only [markRows]
    rw [h x (by simp) n h0 (by omega)]
    simp only [Option.bind_some]
    rw [markRows_eq r (n+c x) (fun y hy=>h y (by simp [hy])) (by omega) (by omega)]
    simp only [Option.bind_some,mkvs,Option.some.injEq,Prod.mk.injEq,true_and]
    omega
theorem markAll_eq {m:Nat} {α:Type} {step:α→Int→Option (α × Int)} {f:α→Int→α} {c:α→Nat} (hmm:m≤most) (l:List α) (n:Int) (hl:l.length≤m) (h:∀ x∈l,∀ n,0≤n→n+c x≤top→step x n=some (f x n,n+c x)) (h0:0≤n) (h1:n+(l.map c).sum≤top) :
    markAll step l n=some (mkvs f c l n,n+(l.map c).sum):=by
  unfold markAll
  rw [Nat.ble_eq_true_of_le (Nat.le_trans hl hmm),cond_true]
  exact markRows_eq l n h h0 h1
theorem mkvs_length {α:Type} {f:α→Int→α} {c:α→Nat}:∀ (l:List α) (n:Int),(mkvs f c l n).length=l.length
  | [],_=>rfl
  | x :: r,n=>by simp only [mkvs,List.length_cons,mkvs_length r]
theorem hdAll_eq {α:Type} {k:Nat} {body:(Option Int→Option Int)→α→Int→(Int→Option Int)→Option Int} {z:α} {f:α→Int→α} {c:α→Nat} (l:List α) (n:Int) (hk:l.length<k) (hl:l.length≤most)
    (h:∀ x∈l,∀ (chk:Option Int→Option Int) (n:Int) (K:Int→Option Int),(∀ o,chk o=o)→0≤n→n+c x≤top→body chk (f x n) n K=K (n+c x)) (h0:0≤n) (h1:n+(l.map c).sum≤top) :
    hdAll k body z (mkvs f c l n) n=some (n+(l.map c).sum):=by
  unfold hdAll
  have key:∀ (r:List α) (i fuel:Nat) (m:Int) (pre:List α),mkvs f c l n=pre++mkvs f c r m→pre.length=i→(∀ x∈r,x∈l)→i+r.length=l.length→r.length<fuel→0≤m→m+(r.map c).sum=n+(l.map c).sum →
      iter (σ:=Int × Int × Unit) (fun rec x=>bif decide (x.2.1<((mkvs f c l n).length:Int)) then body (fun o=>bif decide (0≤x.2.1∧x.2.1<((mkvs f c l n).length:Int)) then o else none) ((mkvs f c l n).getD x.2.1.toNat z) x.1 (fun n'=>rec (n',wrap64 (x.2.1+1),())) else some x.1) fuel (m,(i:Int),())=some (n+(l.map c).sum):=by
    intro r
    induction r with
    | nil =>
      intro i fuel m pre hp hi hm hlen hf h0 hs
      cases fuel with
      | zero=>omega
      | succ fuel =>
        simp only [iter]
        have:decide ((i:Int)<((mkvs f c l n).length:Int))=false:=decide_eq_false (by rw [mkvs_length];simp only [List.length_nil] at hlen;omega)
        rw [this,cond_false]
        simp only [List.map_nil,List.sum_nil] at hs
        exact congrArg some (by omega)
    | cons x r ih =>
      intro i fuel m pre hp hi hm hlen hf h0' hs
      cases fuel with
      | zero=>omega
      | succ fuel =>
        simp only [List.length_cons] at hlen hf
        simp only [List.map_cons,List.sum_cons,Int.natCast_add] at hs
        simp only [iter]
        have hlt:decide ((i:Int)<((mkvs f c l n).length:Int))=true:=decide_eq_true (by rw [mkvs_length];omega)
        rw [hlt,cond_true]
        have hget:(mkvs f c l n).getD (i:Int).toNat z=f x m:=by
          rw [hp,Int.toNat_natCast,← hi,List.getD_eq_getElem?_getD,List.getElem?_append_right (Nat.le_refl _),Nat.sub_self]
          rfl
        rw [hget]
        rw [h x (hm x (by simp)) _ m _ (fun o=>by
          have:decide (0≤(i:Int)∧(i:Int)<((mkvs f c l n).length:Int))=true:=decide_eq_true ⟨by omega,of_decide_eq_true hlt⟩
          rw [this,cond_true]) h0' (by omega)]
        have hmost:most=8589934592:=rfl
        have htop:top=1099511627776:=rfl
        rw [show ((i:Int)+1)=(((i+1:Nat)):Int) from by omega,show wrap64 (((i+1:Nat)):Int)=(((i+1:Nat)):Int) from wr_small (by omega) (by omega)]
        refine ih (i+1) fuel (m+c x) (pre++[f x m]) (by rw [hp,mkvs];simp) (by simp [hi]) (fun y hy=>hm y (by simp [hy])) (by omega) (by omega) (by omega) (by omega)
  have:=key l 0 k n [] rfl rfl (fun _ h=>h) (by simp) hk h0 rfl
  exact this
section
variable {text:Int→Option ByteArray} {tx:Int→ByteArray} (ht:∀ n,0≤n→n<top→text n=some (tx n)) {m:Nat} (hmm:m≤most)
include ht hmm
theorem mkC_eq:∀ (t:Ty) {ρ:Type} (x:t.den) (n:Int) (K:t.den→Int→Option ρ),t.plain=true→t.fits m x→0≤n→n+cnt t x≤top→mkC text t x n K=K (mkv tx t x n) (n+cnt t x)
  | .int k,_,x,n,K,hp,hf,h0,h1=>by
    cases k <;> simp only [Ty.plain] at hp <;> first | cases hp | skip
    simp only [cnt] at h1
    simp only [mkC,mkv,cnt]
    rw [wr_next h0 (by omega)];rfl
  | .bool,_,x,n,K,hp,hf,h0,h1=>by
    simp only [cnt] at h1
    simp only [mkC,mkv,cnt]
    rw [wr_next h0 (by omega)];rfl
  | .str,_,x,n,K,hp,hf,h0,h1=>by
    simp only [cnt] at h1
    simp only [mkC,mkv,cnt]
    rw [ht n h0 (by omega),wr_next h0 (by omega)];rfl
  | .err,_,x,n,K,hp,hf,h0,h1=>by cases hp
  | .adr,_,x,n,K,hp,hf,h0,h1=>by cases hp
  | .slice e,_,l,n,K,hp,hf,h0,h1=>by
    simp only [cnt] at h1
    simp only [mkC,mkv,cnt]
    rw [markAll_eq hmm (f:=mkv tx e) (c:=cnt e) l n hf.1 (fun x hx n q0 q1=>mkC_eq e x n _ hp (hf.2 x hx) q0 q1) h0 h1]
    rfl
  | .pair a b,_,x,n,K,hp,hf,h0,h1=>by
    simp only [Ty.plain,Bool.and_eq_true] at hp
    simp only [cnt,Int.natCast_add] at h1
    simp only [mkC,mkv,cnt]
    rw [mkC_eq a x.1 n _ hp.1 hf.1 h0 (by omega),mkC_eq b x.2 _ _ hp.2 hf.2 (by omega) (by omega)]
    simp only [Int.natCast_add,Int.add_assoc]
  | .struct b,_,x,n,K,hp,hf,h0,h1=>mkC_eq b x n K hp hf h0 h1
theorem moC_eq:∀ (t:Ty) {ρ:Type} (x:t.den) (n:Int) (K:t.den→Int→Option ρ),t.plain=true→t.fits m x→0≤n→n+cno t x≤top→moC text t x n K=K (mov tx t x n) (n+cno t x)
  | .int k,_,x,n,K,hp,hf,h0,h1=>by simp [moC,mov,cno]
  | .bool,_,x,n,K,hp,hf,h0,h1=>by simp [moC,mov,cno]
  | .str,_,x,n,K,hp,hf,h0,h1=>by simp [moC,mov,cno]
  | .err,_,x,n,K,hp,hf,h0,h1=>by cases hp
  | .adr,_,x,n,K,hp,hf,h0,h1=>by cases hp
  | .slice e,_,l,n,K,hp,hf,h0,h1=>by
    simp only [cno] at h1
    simp only [moC,mov,cno]
    rw [markAll_eq hmm (f:=mkv tx e) (c:=cnt e) l n hf.1 (fun x hx n q0 q1=>mkC_eq ht hmm e x n _ hp (hf.2 x hx) q0 q1) h0 h1]
    rfl
  | .pair a b,_,x,n,K,hp,hf,h0,h1=>by
    simp only [Ty.plain,Bool.and_eq_true] at hp
    simp only [cno,Int.natCast_add] at h1
    simp only [moC,mov,cno]
    rw [moC_eq a x.1 n _ hp.1 hf.1 h0 (by omega),moC_eq b x.2 _ _ hp.2 hf.2 (by omega) (by omega)]
    simp only [Int.natCast_add,Int.add_assoc]
  | .struct b,_,x,n,K,hp,hf,h0,h1=>by
    simp only [moC,mov,cno]
    rw [moC_eq b x n _ hp hf h0 h1]
    rfl
theorem hdC_eq {k:Nat} (hk:m<k):∀ (t:Ty) (x:t.den) (chk:Option Int→Option Int) (n:Int) (K:Int→Option Int),(∀ o,chk o=o)→t.plain=true→t.fits m x→0≤n→n+cnt t x≤top→hdC k text t chk (mkv tx t x n) n K=K (n+cnt t x)
  | .int k,x,chk,n,K,hc,hp,hf,h0,h1=>by
    cases k <;> simp only [Ty.plain] at hp <;> first | cases hp | skip
    simp only [cnt] at h1
    simp only [hdC,mkv,cnt,hc,decide_true,Bool.not_true,cond_false]
    rw [wrap_next h0 (by omega)];rfl
  | .bool,x,chk,n,K,hc,hp,hf,h0,h1=>by
    simp only [cnt] at h1
    simp only [hdC,mkv,cnt,hc,beq_self_eq_true,Bool.not_true,cond_false]
    rw [wrap_next h0 (by omega)];rfl
  | .str,x,chk,n,K,hc,hp,hf,h0,h1=>by
    simp only [cnt] at h1
    simp only [hdC,mkv,cnt,hc,ht n h0 (by omega),Option.bind_some,decide_true,Bool.not_true,cond_false]
    rw [wrap_next h0 (by omega)];rfl
  | .err,x,chk,n,K,hc,hp,hf,h0,h1=>by cases hp
  | .adr,x,chk,n,K,hc,hp,hf,h0,h1=>by cases hp
  | .slice e,l,chk,n,K,hc,hp,hf,h0,h1=>by
    simp only [cnt] at h1
    simp only [hdC,mkv,cnt,hc]
    rw [hdAll_eq (f:=mkv tx e) (c:=cnt e) l n (Nat.lt_of_le_of_lt hf.1 hk) (Nat.le_trans hf.1 hmm) (fun x hx chk n K hc q0 q1=>hdC_eq hk e x chk n K hc hp (hf.2 x hx) q0 q1) h0 h1]
    simp only [Option.bind_some]
    rw [decide_eq_false (by omega),cond_false]
  | .pair a b,x,chk,n,K,hc,hp,hf,h0,h1=>by
    simp only [Ty.plain,Bool.and_eq_true] at hp
    simp only [cnt,Int.natCast_add] at h1
    simp only [hdC,mkv,cnt]
    rw [hdC_eq hk a x.1 chk n _ hc hp.1 hf.1 h0 (by omega),hdC_eq hk b x.2 chk _ _ hc hp.2 hf.2 (by omega) (by omega)]
    simp only [Int.natCast_add,Int.add_assoc]
  | .struct b,x,chk,n,K,hc,hp,hf,h0,h1=>hdC_eq hk b x chk n K hc hp hf h0 h1
theorem hoC_eq {k:Nat} (hk:m<k):∀ (t:Ty) (x:t.den) (n:Int) (K:Int→Option Int),t.plain=true→t.fits m x→0≤n→n+cno t x≤top→hoC k text t (mov tx t x n) n K=K (n+cno t x)
  | .int k,x,n,K,hp,hf,h0,h1=>by simp [hoC,cno]
  | .bool,x,n,K,hp,hf,h0,h1=>by simp [hoC,cno]
  | .str,x,n,K,hp,hf,h0,h1=>by simp [hoC,cno]
  | .err,x,n,K,hp,hf,h0,h1=>by cases hp
  | .adr,x,n,K,hp,hf,h0,h1=>by cases hp
  | .slice e,l,n,K,hp,hf,h0,h1=>by
    simp only [cno] at h1
    simp only [hoC,mov,cno]
    rw [hdAll_eq (f:=mkv tx e) (c:=cnt e) l n (Nat.lt_of_le_of_lt hf.1 hk) (Nat.le_trans hf.1 hmm) (fun x hx chk n K hc q0 q1=>hdC_eq ht hmm hk e x chk n K hc hp (hf.2 x hx) q0 q1) h0 h1]
    simp only [Option.bind_some]
    rw [decide_eq_false (by omega),cond_false]
  | .pair a b,x,n,K,hp,hf,h0,h1=>by
    simp only [Ty.plain,Bool.and_eq_true] at hp
    simp only [cno,Int.natCast_add] at h1
    simp only [hoC,mov,cno]
    rw [hoC_eq hk a x.1 n _ hp.1 hf.1 h0 (by omega),hoC_eq hk b x.2 _ _ hp.2 hf.2 (by omega) (by omega)]
    simp only [Int.natCast_add,Int.add_assoc]
  | .struct b,x,n,K,hp,hf,h0,h1=>by
    simp only [hoC,mov,cno]
    rw [hoC_eq hk b x n _ hp hf h0 h1]
    simp only [Option.bind_some]
    rw [decide_eq_false (by omega),cond_false]
end
end Go.Proofs.YtigbabjhcihmaaaGreatDoor.Ev
namespace Go.Proofs.YtigbabjhcihmaaaGreatDoor.Ev
open Go Go.RowKit Go.Proofs.YtigbabjhcihmaaaGreatDoor.Pl
set_option linter.unusedVariables false
set_option linter.unusedSimpArgs false
def txtF (k:Nat) (a0:Int):Option ByteArray :=
  (bif (decide (a0≤(0:Int))) then some (ByteArray.mk #[109,48]) else (iter (σ:=Int × ByteArray × Unit) (fun rec4 x3=>(bif (decide ((0:Int)<x3.1)) then (bif (decide ((10:Int)=0)) then none else (bif (decide ((strOf ([(wr .u8 ((wrap64 ((48:Int)+(x3.1.tmod (10:Int))))))]:List Int)).size+x3.2.1.size<mostText)) then (bif (decide ((10:Int)=0)) then none else (rec4 ((wrap64 (x3.1.tdiv (10:Int))),((strOf ([(wr .u8 ((wrap64 ((48:Int)+(x3.1.tmod (10:Int))))))]:List Int))++x3.2.1),()))) else none)) else (bif (decide ((ByteArray.mk #[109]).size+x3.2.1.size<mostText)) then some ((ByteArray.mk #[109])++x3.2.1) else none))) k (a0,(ByteArray.mk #[]),())))
def txtV (k:Nat) (n:Int):ByteArray:=(txtF k n).getD ⟨#[]⟩
theorem strOf_one (n:Int):(strOf [n]).size=1:=rfl
theorem txtF_eq {k:Nat} (hk:64<k):∀ n:Int,0≤n→n<top→txtF k n=some (txtV k n):=by
  intro n h0 h1
  have key:∀ (j fuel:Nat) (n:Int) (s:ByteArray),0≤n→n<10 ^ j→n<top→j<fuel→s.size+j+2<1000 →
      ∃ r,iter (σ:=Int × ByteArray × Unit) (fun rec4 x3=>(bif (decide ((0:Int)<x3.1)) then (bif (decide ((10:Int)=0)) then none else (bif (decide ((strOf ([(wr .u8 ((wrap64 ((48:Int)+(x3.1.tmod (10:Int))))))]:List Int)).size+x3.2.1.size<mostText)) then (bif (decide ((10:Int)=0)) then none else (rec4 ((wrap64 (x3.1.tdiv (10:Int))),((strOf ([(wr .u8 ((wrap64 ((48:Int)+(x3.1.tmod (10:Int))))))]:List Int))++x3.2.1),()))) else none)) else (bif (decide ((ByteArray.mk #[109]).size+x3.2.1.size<mostText)) then some ((ByteArray.mk #[109])++x3.2.1) else none))) fuel (n,s,())=some r:=by
    intro j
    induction j with
    | zero =>
      intro fuel n s h0 h1 _ hf hs
      have hn:n=0:=by simp at h1;omega
      subst hn
      cases fuel with
      | zero=>omega
      | succ fuel =>
        simp only [iter]
        have h2:decide ((ByteArray.mk #[109]).size+s.size<mostText)=true:=decide_eq_true (by
          have e:(ByteArray.mk #[109]).size=1:=rfl
          have e2:mostText=4611686018427387904:=rfl
          omega)
        exact ⟨_,by rw [h2];rfl⟩
    | succ j ih =>
      intro fuel n s h0 h1 ht hf hs
      cases fuel with
      | zero=>omega
      | succ fuel =>
        simp only [iter]
        have e2:mostText=4611686018427387904:=rfl
        by_cases hz:(0:Int)<n
        · have h3:decide ((0:Int)<n)=true:=decide_eq_true hz
          have h4:decide ((strOf ([(wr .u8 ((wrap64 ((48:Int)+(n.tmod (10:Int))))))]:List Int)).size+s.size<mostText)=true:=decide_eq_true (by rw [strOf_one];omega)
          have h5:n.tdiv 10=n / 10:=Int.tdiv_eq_ediv_of_nonneg h0
          have htop:top=1099511627776:=rfl
          have h6:wrap64 (n.tdiv 10)=n / 10:=by rw [h5];exact wr_small (by omega) (by omega)
          simp only [h3,h4,h6,cond_true]
          have h7:n / 10<10 ^ j:=by
            have:(10:Int) ^ (j+1)=10*10 ^ j:=by rw [Int.pow_succ];omega
            rw [this] at h1
            omega
          have h8:(strOf ([(wr .u8 ((wrap64 ((48:Int)+(n.tmod (10:Int))))))]:List Int)++s).size=1+s.size:=by rw [ByteArray.size_append,strOf_one]
          exact ih fuel (n / 10) _ (by omega) h7 (by omega) (by omega) (by rw [h8];omega)
        · have h3:decide ((0:Int)<n)=false:=decide_eq_false hz
          have h2:decide ((ByteArray.mk #[109]).size+s.size<mostText)=true:=decide_eq_true (by
            have e:(ByteArray.mk #[109]).size=1:=rfl
            omega)
          exact ⟨_,by rw [h3,h2];rfl⟩
  have:∃ r,txtF k n=some r:=by
    unfold txtF
    by_cases hn:n≤0
    · exact ⟨_,by rw [decide_eq_true hn];rfl⟩
    · rw [decide_eq_false hn,cond_false]
      exact key 13 k n _ h0 (by unfold top at h1;omega) h1 (by omega) (by show 0+13+2<1000;omega)
  obtain ⟨r,hr⟩:=this
  unfold txtV
  rw [hr];rfl
theorem fits_of_cost {m:Nat}:∀ (t:Ty) (x:t.den),cost t x≤m→t.fits m x
  | .int _,_,_=>trivial
  | .bool,_,_=>trivial
  | .str,_,_=>trivial
  | .err,_,_=>trivial
  | .adr,_,_=>trivial
  | .slice e,l,h=>⟨Nat.le_trans (cost_len l) h,fun x hx=>fits_of_cost e x (Nat.le_trans (cost_mem hx) h)⟩
  | .pair a b,x,h=>by
    simp only [cost] at h
    exact ⟨fits_of_cost a x.1 (by omega),fits_of_cost b x.2 (by omega)⟩
  | .struct b,x,h=>fits_of_cost b x h
theorem cnt_le {W:Nat}:∀ (t:Ty) (x:t.den),t.deep W=true→cnt t x≤t.wid+W*cost t x
  | .int _,_,_=>Nat.le_add_right _ _
  | .bool,_,_=>Nat.le_add_right _ _
  | .str,_,_=>Nat.le_add_right _ _
  | .err,_,_=>Nat.le_add_right _ _
  | .adr,_,_=>Nat.le_add_right _ _
  | .slice e,l,h=>by
    simp only [Ty.deep,Bool.and_eq_true] at h
    have hw:=Nat.le_of_ble_eq_true h.1
    simp only [cnt,Ty.wid,cost,Nat.zero_add]
    induction l with
    | nil=>simp
    | cons x l ih =>
      have h1:=cnt_le e x h.2
      simp only [List.map_cons,List.sum_cons,List.length_cons]
      have e1:W*(l.length+1+(cost e x+(l.map (cost e)).sum))=W*(l.length+(l.map (cost e)).sum)+W+W*cost e x:=by
        rw [show l.length+1+(cost e x+(l.map (cost e)).sum)=(l.length+(l.map (cost e)).sum)+1+cost e x by omega,Nat.mul_add,Nat.mul_add,Nat.mul_one]
      omega
  | .pair a b,x,h=>by
    simp only [Ty.deep,Bool.and_eq_true] at h
    have h1:=cnt_le a x.1 h.1
    have h2:=cnt_le b x.2 h.2
    simp only [cnt,Ty.wid,cost,Nat.mul_add]
    omega
  | .struct b,x,h=>cnt_le b x h
theorem cno_le {W:Nat}:∀ (t:Ty) (x:t.den),t.deep W=true→cno t x≤W*cost t x
  | .int _,_,_=>Nat.zero_le _
  | .bool,_,_=>Nat.zero_le _
  | .str,_,_=>Nat.zero_le _
  | .err,_,_=>Nat.zero_le _
  | .adr,_,_=>Nat.zero_le _
  | .slice e,l,h=>by have:=cnt_le (.slice e) l h;simpa [cno,cnt,Ty.wid] using this
  | .pair a b,x,h=>by
    simp only [Ty.deep,Bool.and_eq_true] at h
    have h1:=cno_le a x.1 h.1
    have h2:=cno_le b x.2 h.2
    simp only [cno,cost,Nat.mul_add]
    omega
  | .struct b,x,h=>cno_le b x h
theorem mo_all {k:Nat} (hk:fuel<k) (t:Ty) (x:t.den) (n:Int) (hp:t.plain=true) (hd:t.deep 1000=true) (hc:cost t x≤big) (h0:0≤n) (h1:n≤4294967296) {ρ:Type} (K:t.den→Int→Option ρ) :
    moC (txtF k) t x n K=K (mov (txtV k) t x n) (n+cno t x):=by
  have hw:=cno_le t x hd
  have hb:big=1048576:=rfl
  have hfu:fuel=2097152:=rfl
  have htop:top=1099511627776:=rfl
  have hm:1000*cost t x≤1000*big:=Nat.mul_le_mul_left _ hc
  exact moC_eq (txtF_eq (by omega)) (m:=big) (by decide) t x n K hp (fits_of_cost _ _ hc) h0 (by omega)
theorem ho_all {k:Nat} (hk:fuel<k) (t:Ty) (x:t.den) (n:Int) (hp:t.plain=true) (hd:t.deep 1000=true) (hc:cost t x≤big) (h0:0≤n) (h1:n≤4294967296) (K:Int→Option Int) :
    hoC k (txtF k) t (mov (txtV k) t x n) n K=K (n+cno t x):=by
  have hw:=cno_le t x hd
  have hb:big=1048576:=rfl
  have hfu:fuel=2097152:=rfl
  have htop:top=1099511627776:=rfl
  have hm:1000*cost t x≤1000*big:=Nat.mul_le_mul_left _ hc
  exact hoC_eq (txtF_eq (by omega)) (m:=big) (by decide) (by omega) t x n K hp (fits_of_cost _ _ hc) h0 (by omega)
theorem cno_small (t:Ty) (x:t.den) (hd:t.deep 1000=true) (hc:cost t x≤big):cno t x≤1048576000:=by
  have hw:=cno_le t x hd
  have hb:big=1048576:=rfl
  have hm:1000*cost t x≤1000*big:=Nat.mul_le_mul_left _ hc
  omega
def marksOk (P:Program):List (Nat × MSpec)→Prop
  | []=>True
  | (f,m) :: r=>m.ok P f∧marksOk P r
theorem marksOk_get {P:Program}:∀ (l:List (Nat × MSpec)),marksOk P l→∀ f m,look l f=some m→m.ok P f
  | l,ho,f,m,h=>by
    have:=look_mem l f m h
    induction l with
    | nil=>cases this
    | cons p l ih =>
      rcases List.mem_cons.mp this with e | hm
      · obtain ⟨g,gm⟩:=p
        cases e
        exact ho.1
      · have key:∀ (l:List (Nat × MSpec)),marksOk P l→(f,m)∈l→m.ok P f:=by
          intro l
          induction l with
          | nil=>intro _ h;cases h
          | cons q l ih2 =>
            intro ho h
            obtain ⟨g,gm⟩:=q
            rcases List.mem_cons.mp h with e | h
            · cases e;exact ho.1
            · exact ih2 ho.2 h
        exact key l ho.2 hm
theorem trueLasts:Lasts fun _=>True:=fun _ _ _ _=>trivial
def pre0Of (fn:Func):Code:=match fn.body with | some (.seq c _)=>c | _=>.skip
def pre1Of (fn:Func):Code:=match fn.body with | some (.seq _ (.seq (.seq c _) _))=>c | _=>.skip
def blkOf (fn:Func):Nat:=match fn.body with | some (.seq _ (.seq (.seq _ (.block b _)) _))=>b | _=>0
def roundOf (fn:Func):Code:=match fn.body with | some (.seq _ (.seq (.seq _ (.block _ (.loop c))) _))=>c | _=>.skip
def postOf (fn:Func):Code:=match fn.body with | some (.seq _ (.seq _ (.seq c _)))=>c | _=>.skip
def bodyOf (fn:Func):Code:=match fn.body with | some c=>c | none=>.skip
def isRows (fn:Func):Option (Unit) :=
  match fn.body with
  | some (.seq _ (.seq (.seq _ (.block _ (.loop _))) (.seq _ .ret)))=>some ()
  | _=>none
theorem isRows_body {fn:Func} (h:isRows fn=some ()):fn.body=some (.seq (pre0Of fn) (.seq (.seq (pre1Of fn) (.block (blkOf fn) (.loop (roundOf fn)))) (.seq (postOf fn) .ret))):=by
  unfold isRows at h
  split at h
  case h_2=>cases h
  next a b c d e he =>
  simp only [pre0Of,pre1Of,blkOf,roundOf,postOf,he]
theorem bodyOf_body {fn:Func} (h:fn.body.isSome=true):fn.body=some (bodyOf fn):=by
  unfold bodyOf
  cases hb:fn.body with
  | none=>rw [hb] at h;cases h
  | some c=>rfl
theorem mrows_ok {P:Program} {T:Tabs} (h:T.ok P) {calls:List (Nat × CSpec)} (hc:callsOk P (fun _=>True) calls) {marks:List (Nat × MSpec)} (hm:marksOk P marks) {f:FuncId} {fn:Func} (hfn:P.funcs[f]? = some fn) (hname:decide (fn.name = "runtime.NumGoroutine")=false)
    {e:Ty} {nt is rs:Nat} (hb:isRows fn=some ()) (hnt:fn.ntmps=nt) (hres:fn.results=#[.tmp rs]) (hlt:1<nt) {step:e.den→Int→Option (e.den × Int)}
    (hna:e.noAdr=true) (hpre:preRun ⟨T.cx calls,look marks,e⟩ nt is (pre0Of fn) (pre1Of fn)=fun k=>some k) (hround:roundRun ⟨T.cx calls,look marks,e⟩ nt is (roundOf fn)=step) (hstop:stopRun ⟨T.cx calls,look marks,e⟩ nt is (blkOf fn) (roundOf fn)=fun k=>some k) (hpost:postRun ⟨T.cx calls,look marks,e⟩ nt rs (postOf fn)=fun k=>some k) :
    MSpec.ok P f ⟨.slice e,fun l k=>markAll step l k⟩ :=
  rows_ok (M:=⟨T.cx calls,look marks,e⟩) hna (T.good h trueLasts hc) (marksOk_get marks hm) hfn (of_decide_eq_false hname) (isRows_body hb) hnt hres hlt hpre hround hstop hpost
theorem mwhole_ok {P:Program} {T:Tabs} (h:T.ok P) {calls:List (Nat × CSpec)} (hc:callsOk P (fun _=>True) calls) {marks:List (Nat × MSpec)} (hm:marksOk P marks) {f:FuncId} {fn:Func} (hfn:P.funcs[f]? = some fn) (hname:decide (fn.name = "runtime.NumGoroutine")=false)
    {t:Ty} {nt rs:Nat} (hb:fn.body.isSome=true) (hnt:fn.ntmps=nt) (hres:fn.results=#[.tmp rs]) (hlt:1<nt) (hw:(Code.writes (bodyOf fn)).contains 0=false) (hag:t.isAgg=true) {sem:t.den→Int→Option (t.den × Int)}
    (hsem:wholeRun ⟨T.cx calls,look marks⟩ nt rs (bodyOf fn) t=sem):MSpec.ok P f ⟨t,sem⟩ :=
  whole_ok (Q:=⟨T.cx calls,look marks⟩) (T.good h trueLasts hc) (marksOk_get marks hm) hfn (of_decide_eq_false hname) (bodyOf_body hb) hnt hres hlt hw hag hsem
theorem mlaw_ok {P:Program} {T:Tabs} (h:T.ok P) {G:World→Prop} (hG:Lasts G) {calls:List (Nat × CSpec)} (hc:callsOk P G calls) {marks:List (Nat × MSpec)} (hm:marksOk P marks) {f:FuncId} {fn:Func} (hfn:P.funcs[f]? = some fn) (hname:decide (fn.name = "runtime.NumGoroutine")=false)
    {nt rs:Nat} (hb:fn.body.isSome=true) (hnt:fn.ntmps=nt) (hres:fn.results=#[.tmp rs]) {params:List Ty} {sem:denL params→Option Bool} (hsem:(fun x=>lawRun ⟨T.cx calls,look marks⟩ nt rs (bodyOf fn) params (giveOlds params x))=sem) :
    CSpec.ok P G f { params:=params,res:=[(.bool,false)],fresh:=true,sem:=sem } :=
  law_ok (Q:=⟨T.cx calls,look marks⟩) (T.good h hG hc) (marksOk_get marks hm) hfn (of_decide_eq_false hname) (bodyOf_body hb) hnt hres hsem
end Go.Proofs.YtigbabjhcihmaaaGreatDoor.Ev
