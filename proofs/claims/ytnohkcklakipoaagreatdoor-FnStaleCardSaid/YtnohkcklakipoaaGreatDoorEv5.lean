/- Shapes: the state at a loop's head. -/
import Derived.Test.YtnohkcklakipoaaGreatDoorEv3
import Derived.Test.YtnohkcklakipoaaGreatDoorEv4
namespace Go.Proofs.YtnohkcklakipoaaGreatDoor.Ev
open Go Go.RowKit
set_option linter.unusedVariables false
set_option linter.unusedSimpArgs false
variable {ρ:Type}
section
variable {P:Program} {cx:Cx} {E:Env} {w0 w:World} {μ:Lie} {st:St} {a:Act}
def FitA (bl':List Blk) (gen:Nat→Nat) (n:Nat) (x y:A):Prop :=
  y = .undef∨(y=x∧match x with
    | .int _ _ | .bool _ | .str _ | .err _=>True
    | .ptr b _=>b<n
    | .fn _ caps=>∀ p∈caps,p.1<n
    | _=>False)∨(∃ fr fr' t l,x = .sl fr t l∧y = .sl fr' t l∧(fr'=true→fr=true)) ∨
  (∃ b g own nf t l,x = .os b g∧y = .os b (gen b)∧b<n∧bl'[b]? = some (.arr g own nf t l))∨(∃ fr t,x = .nil t∧y = .sl fr t [])
def KOk (n:Nat):CellK→Prop
  | .os b=>b<n
  | .ptr b _=>b<n
  | .fn _ caps=>∀ p∈caps,p.1<n
  | _=>True
theorem lt_of_get {α:Type} {l:List α} {i:Nat} {x:α} (h:l[i]? = some x):i<l.length:=by
  rcases Nat.lt_or_ge i l.length with q | q
  · exact q
  · rw [List.getElem?_eq_none q] at h;cases h
theorem kind_ok (weak:Bool) (bl:List Blk) (x:A):KOk bl.length (x.kind weak bl):=by
  cases x with
  | os b g =>
    simp only [A.kind]
    split
    · next hb =>
      cases hg:g == _ with
      | true=>exact lt_of_get hb
      | false=>trivial
    · trivial
  | ptr b off =>
    simp only [A.kind]
    cases h:Nat.blt b bl.length with
    | true=>exact Nat.le_of_ble_eq_true h
    | false=>trivial
  | fn f caps =>
    simp only [A.kind]
    cases h:caps.all fun p=>Nat.blt p.1 bl.length with
    | true=>intro p hp;exact Nat.le_of_ble_eq_true (List.all_eq_true.mp h p hp)
    | false=>trivial
  | _=>trivial
theorem unmk_cells {bl':List Blk} (gen:Nat→Nat) {n:Nat} {σ:Type}:∀ (ks:List CellK) (cs:List A) (r:Option σ) (x:CellK.dens ks σ),unCells bl' ks cs r=some x→(∀ k∈ks,KOk n k) →
    r=some (mkCells gen ks x).2∧All2 (FitA bl' gen n) cs (mkCells gen ks x).1
  | [],[],r,x,h,_=>⟨h,trivial⟩
  | [],_ :: _,r,x,h,_=>by simp [unCells] at h
  | k :: ks,[],r,x,h,_=>by cases k <;> simp [unCells] at h
  | .drop :: ks,c :: cs,r,x,h,hk=>by
    simp only [unCells] at h
    obtain ⟨h1,h2⟩:=unmk_cells gen ks cs r x h fun k hk'=>hk k (List.mem_cons_of_mem _ hk')
    exact ⟨h1,Or.inl rfl,h2⟩
  | .int k :: ks,c :: cs,r,x,h,hk=>by
    cases c <;> simp only [unCells,reduceCtorEq] at h
    split at h
    · next e =>
      subst e
      split at h
      · next y hy =>
        cases h
        obtain ⟨h1,h2⟩:=unmk_cells gen ks cs r y hy fun k hk'=>hk k (List.mem_cons_of_mem _ hk')
        exact ⟨h1,Or.inr (Or.inl ⟨rfl,trivial⟩),h2⟩
      · cases h
    · cases h
  | .bool :: ks,c :: cs,r,x,h,hk=>by
    cases c <;> simp only [unCells,reduceCtorEq] at h
    split at h
    · next y hy =>
      cases h
      obtain ⟨h1,h2⟩:=unmk_cells gen ks cs r y hy fun k hk'=>hk k (List.mem_cons_of_mem _ hk')
      exact ⟨h1,Or.inr (Or.inl ⟨rfl,trivial⟩),h2⟩
    · cases h
  | .str :: ks,c :: cs,r,x,h,hk=>by
    cases c <;> simp only [unCells,reduceCtorEq] at h
    split at h
    · next y hy =>
      cases h
      obtain ⟨h1,h2⟩:=unmk_cells gen ks cs r y hy fun k hk'=>hk k (List.mem_cons_of_mem _ hk')
      exact ⟨h1,Or.inr (Or.inl ⟨rfl,trivial⟩),h2⟩
    · cases h
  | .err :: ks,c :: cs,r,x,h,hk=>by
    cases c <;> simp only [unCells,reduceCtorEq] at h
    split at h
    · next y hy =>
      cases h
      obtain ⟨h1,h2⟩:=unmk_cells gen ks cs r y hy fun k hk'=>hk k (List.mem_cons_of_mem _ hk')
      exact ⟨h1,Or.inr (Or.inl ⟨rfl,trivial⟩),h2⟩
    · cases h
  | .sl fr t :: ks,c :: cs,r,x,h,hk=>by
    cases c <;> simp only [unCells,reduceCtorEq] at h
    case nil t' =>
      revert h
      split
      case h_2=>intro h;cases h
      next e he =>
      have e:=e.1
      subst e
      intro h
      split at h
      · next y hy =>
        cases h
        obtain ⟨h1,h2⟩:=unmk_cells gen ks cs r y hy fun k hk'=>hk k (List.mem_cons_of_mem _ hk')
        exact ⟨h1,Or.inr (Or.inr (Or.inr (Or.inr ⟨fr,_,rfl,rfl⟩))),h2⟩
      · cases h
    next fr' t' l =>
    have hf:=(cond_none' h).1
    replace h:=(cond_none' h).2
    revert h
    split
    case h_2=>intro h;cases h
    next e he =>
    subst e
    intro h
    split at h
    · next y hy =>
      cases h
      obtain ⟨h1,h2⟩:=unmk_cells gen ks cs r y hy fun k hk'=>hk k (List.mem_cons_of_mem _ hk')
      exact ⟨h1,Or.inr (Or.inr (Or.inl ⟨fr',fr,t',l,rfl,rfl,fun q=>by subst q;simpa using hf⟩)),h2⟩
    · cases h
  | .os b :: ks,c :: cs,r,x,h,hk=>by
    cases c <;> simp only [unCells,reduceCtorEq] at h
    next b' g =>
    have hf:=(cond_none h).1
    replace h:=(cond_none h).2
    have hf:b=b':=by simpa using hf
    subst hf
    split at h
    · next g' own nf t l hb =>
      have hg:=(cond_none h).1
      replace h:=(cond_none h).2
      have hg:g=g':=by simpa using hg
      subst hg
      obtain ⟨h1,h2⟩:=unmk_cells gen ks cs r x h fun k hk'=>hk k (List.mem_cons_of_mem _ hk')
      exact ⟨h1,Or.inr (Or.inr (Or.inr (Or.inl ⟨b,g,own,nf,t,l,rfl,rfl,hk _ (List.mem_cons_self ..),hb⟩))),h2⟩
    · cases h
  | .ptr b off :: ks,c :: cs,r,x,h,hk=>by
    cases c <;> simp only [unCells,reduceCtorEq] at h
    next b' off' =>
    have hf:=(cond_none h).1
    replace h:=(cond_none h).2
    simp only [Bool.and_eq_true,beq_iff_eq] at hf
    obtain ⟨rfl,rfl⟩:=hf
    obtain ⟨h1,h2⟩:=unmk_cells gen ks cs r x h fun k hk'=>hk k (List.mem_cons_of_mem _ hk')
    exact ⟨h1,Or.inr (Or.inl ⟨rfl,hk _ (List.mem_cons_self ..)⟩),h2⟩
  | .fn f caps :: ks,c :: cs,r,x,h,hk=>by
    cases c <;> simp only [unCells,reduceCtorEq] at h
    next f' caps' =>
    have hf:=(cond_none h).1
    replace h:=(cond_none h).2
    simp only [Bool.and_eq_true,beq_iff_eq,decide_eq_true_eq] at hf
    obtain ⟨rfl,rfl⟩:=hf
    obtain ⟨h1,h2⟩:=unmk_cells gen ks cs r x h fun k hk'=>hk k (List.mem_cons_of_mem _ hk')
    exact ⟨h1,Or.inr (Or.inl ⟨rfl,hk _ (List.mem_cons_self ..)⟩),h2⟩
def FitV (bl':List Blk) (gen:Nat→Nat) (n:Nat) (k:SlotK) (v0 v1:Option V) (v2:V):Prop :=
  (k = .same∧(∀ v,v0=some v→v2=v))∨(k ≠ .same∧(v2=V.undef∨(∃ c1 c2,v1=some (.at c1)∧v2 = .at c2∧FitA bl' gen n c1 c2) ∨
  (∃ c1 c2,v1=some (.agg c1)∧v2 = .agg c2∧All2 (FitA bl' gen n) c1 c2)))
def SOk (n:Nat):SlotK→Prop
  | .same=>True
  | .at c=>KOk n c
  | .agg cs=>∀ k∈cs,KOk n k
theorem headD_get {α:Type} (l:List α) (d:α):∀ v,l[0]? = some v→l.headD d=v:=by
  intro v h
  cases l with
  | nil=>cases h
  | cons x l=>simpa using h
theorem tail_get {α:Type} (l:List α) (i:Nat):l.tail[i]? = l[i+1]?:=by cases l <;> simp
theorem unmk_slots {bl':List Blk} (gen:Nat→Nat) {n:Nat} {σ:Type}:∀ (ks:List SlotK) (v0 vs:List V) (r:Option σ) (x:SlotK.dens ks σ),unSlots bl' ks vs r=some x→(∀ k∈ks,SOk n k) →
    r=some (mkSlots gen ks v0 x).2∧(mkSlots gen ks v0 x).1.length=ks.length∧vs.length=ks.length∧∀ (i:Nat) (k:SlotK),ks[i]? = some k→∃ v2,(mkSlots gen ks v0 x).1[i]? = some v2∧FitV bl' gen n k v0[i]? vs[i]? v2
  | [],v0,[],r,x,h,_=>⟨h,rfl,rfl,fun i k hk=>by simp at hk⟩
  | [],v0,_ :: _,r,x,h,_=>by simp [unSlots] at h
  | k :: ks,v0,[],r,x,h,_=>by
    cases k with
    | same=>simp [unSlots] at h
    | «at» c=>cases c <;> simp [unSlots] at h
    | agg cs=>simp [unSlots] at h
  | .same :: ks,v0,v :: vs,r,x,h,hk=>by
    simp only [unSlots] at h
    obtain ⟨h1,h2,h3,h4⟩:=unmk_slots gen ks v0.tail vs r x h fun k hk'=>hk k (List.mem_cons_of_mem _ hk')
    refine ⟨h1,by simp only [mkSlots,List.length_cons,h2],by simp [h3],fun i k hi=>?_⟩
    cases i with
    | zero =>
      simp only [List.getElem?_cons_zero,Option.some.injEq] at hi
      subst hi
      exact ⟨_,rfl,Or.inl ⟨rfl,fun u hu=>headD_get v0 _ u hu⟩⟩
    | succ i =>
      obtain ⟨v2,q1,q2⟩:=h4 i k (by simpa using hi)
      rw [tail_get] at q2
      exact ⟨v2,by simpa [mkSlots] using q1,by simpa using q2⟩
  | .agg cs :: ks,v0,v :: vs,r,x,h,hk=>by
    cases v <;> simp only [unSlots,reduceCtorEq] at h
    next xs =>
    obtain ⟨c1,c2⟩:=unmk_cells gen cs xs _ x h (hk _ (List.mem_cons_self ..))
    obtain ⟨h1,h2,h3,h4⟩:=unmk_slots gen ks v0.tail vs r _ c1 fun k hk'=>hk k (List.mem_cons_of_mem _ hk')
    refine ⟨h1,by simp only [mkSlots,List.length_cons,h2],by simp [h3],fun i k hi=>?_⟩
    cases i with
    | zero =>
      simp only [List.getElem?_cons_zero,Option.some.injEq] at hi
      subst hi
      exact ⟨_,rfl,Or.inr ⟨by simp,Or.inr (Or.inr ⟨xs,_,rfl,rfl,c2⟩)⟩⟩
    | succ i =>
      obtain ⟨v2,q1,q2⟩:=h4 i k (by simpa using hi)
      rw [tail_get] at q2
      exact ⟨v2,by simpa [mkSlots] using q1,by simpa using q2⟩
  | .at c :: ks,v0,v :: vs,r,x,h,hk=>by
    have key:(∃ y,unCells bl' [c] [y] (unSlots bl' ks vs r)=some x∧(v = .at y∨c = .drop)):=by
      cases c with
      | drop=>exact ⟨.undef,by simpa [unSlots,unCells] using h,Or.inr rfl⟩
      | _=>cases v <;> simp only [unSlots,reduceCtorEq] at h;exact ⟨_,h,Or.inl rfl⟩
    obtain ⟨y,hy,hv⟩:=key
    obtain ⟨c1,c2⟩:=unmk_cells gen [c] [y] _ x hy (fun k hk'=>by have:=List.mem_singleton.mp hk';subst this;exact hk (.at k) (List.mem_cons_self ..))
    obtain ⟨h1,h2,h3,h4⟩:=unmk_slots gen ks v0.tail vs r _ c1 fun k hk'=>hk k (List.mem_cons_of_mem _ hk')
    refine ⟨h1,by simp only [mkSlots,List.length_cons,h2],by simp [h3],fun i k hi=>?_⟩
    cases i with
    | zero =>
      simp only [List.getElem?_cons_zero,Option.some.injEq] at hi
      subst hi
      refine ⟨_,rfl,?_⟩
      cases hm:(mkCells gen [c] x).1 with
      | nil=>rw [hm] at c2;exact c2.elim
      | cons z zs =>
        rw [hm] at c2
        rcases hv with rfl | rfl
        · exact Or.inr ⟨by simp,Or.inr (Or.inl ⟨y,z,rfl,rfl,c2.1⟩)⟩
        · refine Or.inr ⟨by simp,Or.inl ?_⟩
          have:(mkCells (σ:=SlotK.dens ks σ) gen [.drop] x).1=[A.undef]:=rfl
          rw [this] at hm
          cases hm
          rfl
    | succ i =>
      obtain ⟨v2,q1,q2⟩:=h4 i k (by simpa using hi)
      rw [tail_get] at q2
      exact ⟨v2,by simpa [mkSlots] using q1,by simpa using q2⟩
def FitB (bl':List Blk) (gen:Nat→Nat) (n:Nat) (k:BlkK) (b0 b1:Option Blk) (b2:Blk):Prop :=
  match k with
  | .same=>∀ b,b0=some b→b2=b
  | .var _=>∃ c1 c2,b1=some (.var c1)∧b2 = .var c2∧All2 (FitA bl' gen n) c1 c2
  | .arr grow g own nf t=>∃ g1 own1 nf1 l,b1=some (.arr g1 own1 nf1 t l)∧b2 = .arr g own nf t l∧(own=true→own1=true)∧(nf=true→nf1=true)∧(grow=false→g=g1)
def BOk (n:Nat):BlkK→Prop
  | .var cs=>∀ k∈cs,KOk n k
  | _=>True
theorem unmk_blks {bl':List Blk} (gen:Nat→Nat) {n:Nat}:∀ (ks:List BlkK) (b0 bs:List Blk) (x:BlkK.dens ks),unBlks bl' ks bs=some x→(∀ k∈ks,BOk n k) →
    (mkBlks gen ks b0 x).length=ks.length∧ks.length≤bs.length∧∀ (i:Nat) (k:BlkK),ks[i]? = some k→∃ b2,(mkBlks gen ks b0 x)[i]? = some b2∧FitB bl' gen n k b0[i]? bs[i]? b2
  | [],b0,bs,x,h,_=>⟨rfl,Nat.zero_le _,fun i k hk=>by simp at hk⟩
  | k :: ks,b0,[],x,h,_=>by cases k <;> simp [unBlks] at h
  | .same :: ks,b0,b :: bs,x,h,hk=>by
    simp only [unBlks] at h
    obtain ⟨h1,h2,h3⟩:=unmk_blks gen ks b0.tail bs x h fun k hk'=>hk k (List.mem_cons_of_mem _ hk')
    refine ⟨by simp only [mkBlks,List.length_cons,h1],by simp;omega,fun i k hi=>?_⟩
    cases i with
    | zero =>
      simp only [List.getElem?_cons_zero,Option.some.injEq] at hi
      subst hi
      exact ⟨_,rfl,fun u hu=>headD_get b0 _ u hu⟩
    | succ i =>
      obtain ⟨v2,q1,q2⟩:=h3 i k (by simpa using hi)
      rw [tail_get] at q2
      exact ⟨v2,by simpa [mkBlks] using q1,by simpa using q2⟩
  | .var cs :: ks,b0,b :: bs,x,h,hk=>by
    cases b <;> simp only [unBlks,reduceCtorEq] at h
    next xs =>
    obtain ⟨c1,c2⟩:=unmk_cells gen cs xs _ x h (hk _ (List.mem_cons_self ..))
    obtain ⟨h1,h2,h3⟩:=unmk_blks gen ks b0.tail bs _ c1 fun k hk'=>hk k (List.mem_cons_of_mem _ hk')
    refine ⟨by simp only [mkBlks,List.length_cons,h1],by simp;omega,fun i k hi=>?_⟩
    cases i with
    | zero =>
      simp only [List.getElem?_cons_zero,Option.some.injEq] at hi
      subst hi
      exact ⟨_,rfl,xs,_,rfl,rfl,c2⟩
    | succ i =>
      obtain ⟨v2,q1,q2⟩:=h3 i k (by simpa using hi)
      rw [tail_get] at q2
      exact ⟨v2,by simpa [mkBlks] using q1,by simpa using q2⟩
  | .arr grow g own nf t :: ks,b0,b :: bs,x,h,hk=>by
    cases b <;> simp only [unBlks,reduceCtorEq] at h
    next g1 own1 nf1 t1 l =>
    have hf:=(cond_none' h).1
    replace h:=(cond_none' h).2
    simp only [Bool.or_eq_false_iff,Bool.and_eq_false_imp,Bool.not_eq_false',Bool.not_eq_true',beq_iff_eq] at hf
    obtain ⟨⟨f1,f2⟩,f3⟩:=hf
    revert h
    split
    case h_2=>intro h;cases h
    next e he =>
    subst e
    intro h
    split at h
    case h_2=>cases h
    next y hy =>
    cases h
    obtain ⟨h1,h2,h3⟩:=unmk_blks gen ks b0.tail bs y hy fun k hk'=>hk k (List.mem_cons_of_mem _ hk')
    refine ⟨by simp only [mkBlks,List.length_cons,h1],by simp;omega,fun i k hi=>?_⟩
    cases i with
    | zero =>
      simp only [List.getElem?_cons_zero,Option.some.injEq] at hi
      subst hi
      exact ⟨_,rfl,g1,own1,nf1,l,rfl,rfl,f1,f2,f3⟩
    | succ i =>
      obtain ⟨v2,q1,q2⟩:=h3 i k (by simpa using hi)
      rw [tail_get] at q2
      exact ⟨v2,by simpa [mkBlks] using q1,by simpa using q2⟩
theorem slotKinds_get (kp:Keep) (ws:List Nat) (bl:List Blk):∀ (vs:List V) (n i:Nat) (k:SlotK),(slotKinds kp ws bl n vs)[i]? = some k→SOk bl.length k∧i<vs.length∧(k = .same↔n+i ∉ ws)
  | [],n,i,k,h=>by simp [slotKinds] at h
  | v :: vs,n,i,k,h=>by
    simp only [slotKinds] at h
    cases i with
    | succ i =>
      obtain ⟨h1,h2,h3⟩:=slotKinds_get kp ws bl vs (n+1) i k (by simpa using h)
      exact ⟨h1,by simp;omega,by rw [h3,show n+1+i=n+(i+1) by omega]⟩
    | zero =>
      simp only [List.getElem?_cons_zero,Option.some.injEq] at h
      subst h
      refine ⟨?_,by simp,?_⟩
      · cases ws.contains n with
        | false=>trivial
        | true =>
          simp only [cond_true]
          cases kp.slots.contains n with
          | false=>trivial
          | true =>
            simp only [cond_true]
            cases v with
            | «at» x=>exact kind_ok _ _ x
            | agg cs=>intro k hk;obtain ⟨c,_,rfl⟩:=List.mem_map.mp hk;exact kind_ok _ _ c
            | tup _=>trivial
      · rw [Nat.add_zero]
        cases h:ws.contains n with
        | false =>
          simp only [cond_false,true_iff]
          simpa using h
        | true =>
          have hm:n∈ws:=by simpa using h
          simp only [cond_true]
          constructor
          · intro e
            exfalso
            revert e
            cases kp.slots.contains n with
            | false=>intro e;cases e
            | true=>cases v <;> intro e <;> cases e
          · intro q;exact absurd hm q
theorem slotKinds_length (kp:Keep) (ws:List Nat) (bl:List Blk):∀ (vs:List V) (n:Nat),(slotKinds kp ws bl n vs).length=vs.length
  | [],_=>rfl
  | v :: vs,n=>by simp only [slotKinds,List.length_cons,slotKinds_length kp ws bl vs]
def FromB (n:Nat) (locked:Bool) (k:BlkK) (b:Blk):Prop :=
  match k with
  | .same=>True
  | .var cs=>locked=false∧(∃ cs0,b = .var cs0)∧∀ k∈cs,KOk n k
  | .arr grow g own nf t=>locked=false∧∃ g0 own0 nf0 l0,b = .arr g0 own0 nf0 t l0∧((grow=true∧g=g0+1)∨(grow=false∧g=g0))
theorem blkKinds_get (kp:Keep) (lock:List Nat) (bl:List Blk):∀ (bs:List Blk) (n i:Nat) (k:BlkK),(blkKinds kp lock bl n bs)[i]? = some k→∃ b,bs[i]? = some b∧FromB bl.length (lock.contains (n+i)) k b
  | [],n,i,k,h=>by simp [blkKinds] at h
  | b :: bs,n,i,k,h=>by
    simp only [blkKinds] at h
    cases i with
    | succ i =>
      obtain ⟨b',h1,h2⟩:=blkKinds_get kp lock bl bs (n+1) i k (by simpa using h)
      exact ⟨b',by simpa using h1,by rwa [show n+(i+1)=n+1+i by omega]⟩
    | zero =>
      simp only [List.getElem?_cons_zero,Option.some.injEq] at h
      subst h
      refine ⟨b,rfl,?_⟩
      rw [Nat.add_zero]
      cases lock.contains n with
      | true=>trivial
      | false =>
        simp only [cond_false]
        cases b with
        | dead=>trivial
        | var cs =>
          simp only
          cases kp.blks.contains n with
          | false=>trivial
          | true=>exact ⟨rfl,⟨cs,rfl⟩,fun k hk=>by obtain ⟨c,_,rfl⟩:=List.mem_map.mp hk;exact kind_ok _ _ c⟩
        | arr g own nf t l =>
          simp only
          cases kp.grow.contains n with
          | true=>exact ⟨rfl,g,own,nf,l,rfl,Or.inl ⟨rfl,rfl⟩⟩
          | false =>
            simp only [cond_false]
            cases kp.blks.contains n with
            | false=>trivial
            | true=>exact ⟨rfl,g,own,nf,l,rfl,Or.inr ⟨rfl,rfl⟩⟩
theorem blkKinds_length (kp:Keep) (lock:List Nat) (bl:List Blk):∀ (bs:List Blk) (n:Nat),(blkKinds kp lock bl n bs).length=bs.length
  | [],_=>rfl
  | b :: bs,n=>by simp only [blkKinds,List.length_cons,blkKinds_length kp lock bl bs]
theorem lockOf_mem:∀ (ks:List BlkK) (n i:Nat),ks[i]? = some .same→n+i∈lockOf ks n
  | [],_,_,h=>by simp at h
  | k :: ks,n,0,h=>by
    simp only [List.getElem?_cons_zero,Option.some.injEq] at h
    subst h
    simp [lockOf]
  | k :: ks,n,i+1,h=>by
    have:=lockOf_mem ks (n+1) i (by simpa using h)
    rw [show n+1+i=n+(i+1) by omega] at this
    cases k <;> simp only [lockOf] <;> first | exact this | exact List.mem_cons_of_mem _ this
end
end Go.Proofs.YtnohkcklakipoaaGreatDoor.Ev
namespace Go.Proofs.YtnohkcklakipoaaGreatDoor.Ev
open Go Go.RowKit
set_option linter.unusedVariables false
set_option linter.unusedSimpArgs false
variable {ρ:Type}
section
variable {P:Program} {cx:Cx} {E:Env} {w0 w:World} {μ:Lie} {st:St} {a:Act}
theorem All2.comp {α β γ:Type} {R:α→β→Prop} {S:α→γ→Prop} {T:γ→β→Prop} (h:∀ x y z,S x z→R x y→T z y):∀ {as:List α} {bs:List β} {cs:List γ},All2 S as cs→All2 R as bs→All2 T cs bs
  | [],[],[],_,_=>trivial
  | _ :: _,_ :: _,_ :: _,hs,hr=>⟨h _ _ _ hs.1 hr.1,All2.comp h hs.2 hr.2⟩
  | [],_ :: _,_,_,hr=>hr.elim
  | _ :: _,[],_,_,hr=>hr.elim
  | [],[],_ :: _,hs,_=>hs.elim
  | _ :: _,_ :: _,[],hs,_=>hs.elim
theorem All2.both {α β γ:Type} {R:α→β→Prop} {S:α→γ→Prop} {T:α→β→Prop} (h:∀ x y z,S x z→R x y→T x y):∀ {as:List α} {bs:List β} {cs:List γ},All2 S as cs→All2 R as bs→All2 T as bs
  | [],[],[],_,_=>trivial
  | _ :: _,_ :: _,_ :: _,hs,hr=>⟨h _ _ _ hs.1 hr.1,All2.both h hs.2 hr.2⟩
  | [],_ :: _,_,_,hr=>hr.elim
  | _ :: _,[],_,_,hr=>hr.elim
  | [],[],_ :: _,hs,_=>hs.elim
  | _ :: _,_ :: _,[],hs,_=>hs.elim
def Made (bl bl' mb:List Blk) (gen:Nat→Nat):Prop:=∀ (b:Nat) (b2:Blk),mb[b]? = some b2 →
  (bl[b]? = some b2∧bl'[b]? = some b2) ∨
  (∃ (cs0 c1 c2:List A),bl[b]? = some (.var cs0)∧bl'[b]? = some (.var c1)∧b2 = .var c2∧All2 (FitA bl' gen bl.length) c1 c2) ∨
  (∃ (g0:Nat) (own0 nf0:Bool) (t:Ty) (l0:List t.den) (g1:Nat) (own1 nf1:Bool) (l:List t.den) (g:Nat) (own nf:Bool),bl[b]? = some (.arr g0 own0 nf0 t l0)∧bl'[b]? = some (.arr g1 own1 nf1 t l)∧b2 = .arr g own nf t l∧(own=true→own1=true)∧(nf=true→nf1=true)∧(g=g0+1∨(g=g0∧g1=g0)))
section
variable {w':World} {μ':Lie} {bl bl' mb:List Blk} {gen:Nat→Nat}
theorem Made.mine (hM:Made bl bl' mb gen) {b:Nat} (h:mine mb b):mine bl' b:=by
  unfold Ev.mine at h
  split at h
  · next cs hb =>
    rcases hM b _ hb with ⟨_,q⟩ | ⟨cs0,c1,c2,_,q,e,_⟩ | ⟨_,_,_,_,_,_,_,_,_,_,_,_,_,q,e,_⟩
    · unfold Ev.mine;rw [q];trivial
    · unfold Ev.mine;rw [q];trivial
    · cases e
  · next g own nf t l hb =>
    rcases hM b _ hb with ⟨_,q⟩ | ⟨cs0,c1,c2,_,q,e,_⟩ | ⟨_,_,_,_,_,_,_,_,_,_,_,_,_,q,e,ho,_⟩
    · unfold Ev.mine;rw [q];exact h
    · cases e
    · cases e;unfold Ev.mine;rw [q];exact ho h
  · exact h.elim
theorem Made.alive (hM:Made bl bl' mb gen) {b:Nat} (h:alive mb b):alive bl' b:=by
  unfold Ev.alive at h
  split at h
  · next cs hb =>
    rcases hM b _ hb with ⟨_,q⟩ | ⟨cs0,c1,c2,_,q,e,_⟩ | ⟨_,_,_,_,_,_,_,_,_,_,_,_,_,q,e,_⟩
    · unfold Ev.alive;rw [q];trivial
    · unfold Ev.alive;rw [q];trivial
    · cases e
  · next g own nf t l hb =>
    rcases hM b _ hb with ⟨_,q⟩ | ⟨cs0,c1,c2,_,q,e,_⟩ | ⟨_,_,_,_,_,_,_,_,_,_,_,_,_,q,e,ho,_⟩
    · unfold Ev.alive;rw [q];trivial
    · cases e
    · unfold Ev.alive;rw [q];trivial
  · exact h.elim
theorem Made.own (hM:Made bl bl' mb gen) {k:Nat} (h:Own μ' mb k):Own μ' bl' k:=let ⟨b,c,h1,h2⟩:=h;⟨b,c,h1,hM.mine h2⟩
theorem Made.D (hM:Made bl bl' mb gen) {fr:Bool} {k:Nat} (h:E.D μ' bl' fr k):E.D μ' mb fr k:=⟨h.1,fun ho=>h.2 (hM.own ho)⟩
theorem Made.varOf (hM:Made bl bl' mb gen) {b:Nat} {cs:List A} (h:mb[b]? = some (.var cs)):∃ cs',bl'[b]? = some (.var cs'):=by
  rcases hM b _ h with ⟨_,q⟩ | ⟨cs0,c1,c2,_,q,e,_⟩ | ⟨_,_,_,_,_,_,_,_,_,_,_,_,_,q,e,_⟩
  · exact ⟨_,q⟩
  · exact ⟨_,q⟩
  · cases e
theorem Made.evo (hM:Made bl bl' mb gen) (hl:mb.length=bl.length) (hE:Evo w μ bl w' μ' bl'):Evo w μ bl w' μ' mb:=by
  refine ⟨Nat.le_of_eq hl.symm,hE.size,fun b cs hlt hb=>?_,fun b g own nf t l hlt hb=>?_,hE.heap,fun k hk hlt=>hE.own k (hM.own hk) hlt⟩
  · obtain ⟨cs',q'⟩:=hM.varOf hb
    obtain ⟨_,e⟩:=hE.var b cs' hlt q'
    refine ⟨?_,e⟩
    rcases hM b _ hb with ⟨q,_⟩ | ⟨cs0,c1,c2,q,_⟩ | ⟨_,_,_,_,_,_,_,_,_,_,_,_,_,_,e,_⟩
    · exact ⟨_,q⟩
    · exact ⟨_,q⟩
    · cases e
  · rcases hM b _ hb with ⟨q0,q⟩ | ⟨cs0,c1,c2,_,q,e,_⟩ | ⟨g0,own0,nf0,t0,l0,g1,own1,nf1,l1,g2,own2,nf2,q0,q1,e,ho,hn,hg⟩
    · obtain ⟨g',own',nf',l',h1,h2,h3⟩:=hE.arr b _ _ _ _ _ hlt q
      exact ⟨g',own',nf',l',h1,h2,h3⟩
    · cases e
    · cases e
      refine ⟨g0,own0,nf0,l0,q0,by omega,fun e=>?_⟩
      have hg1:g1=g0:=by omega
      obtain ⟨g',own',nf',l',h1,h2,h3⟩:=hE.arr b _ _ _ _ _ hlt q1
      rw [q0] at h1
      cases h1
      exact h3 hg1.symm
theorem Made.isPtr (hM:Made bl bl' mb gen) (hl:mb.length=bl.length) {b off:Nat} {v:Value} (hb:b<bl.length) (h:isPtr μ' bl' b off v):isPtr μ' mb b off v:=by
  refine ⟨⟨h.1.1,by omega⟩,fun cs hcs=>?_⟩
  obtain ⟨cs',q⟩:=hM.varOf hcs
  exact h.2 cs' q
theorem Made.rep (hM:Made bl bl' mb gen) (hl:mb.length=bl.length) {x:A} {v0 v:Value} (h0:RepA E w μ bl x v0) (h:RepA E w' μ' bl' x v):RepA E w' μ' mb x v:=by
  have rowOk:∀ {b g:Nat} {α:(t:Ty)→List t.den→Prop},(∀ (g':Nat) (own nf:Bool) (t:Ty) (l:List t.den),bl[b]? = some (.arr g' own nf t l)→g≤g')→(∀ (g':Nat) (own nf:Bool) (t:Ty) (l:List t.den),bl'[b]? = some (.arr g' own nf t l)→g≤g'∧(g=g'→α t l)) →
      ∀ (g':Nat) (own nf:Bool) (t:Ty) (l:List t.den),mb[b]? = some (.arr g' own nf t l)→g≤g'∧(g=g'→α t l):=by
    intro b g α hb0 hb1 g' own nf t l hb
    rcases hM b _ hb with ⟨q0,q⟩ | ⟨cs0,c1,c2,_,q,e,_⟩ | ⟨g0,own0,nf0,t0,l0,g1,own1,nf1,l1,g2,own2,nf2,q0,q1,e,ho,hn,hg⟩
    · exact hb1 _ _ _ _ _ q
    · cases e
    · cases e
      have:=hb0 _ _ _ _ _ q0
      refine ⟨by omega,fun e=>?_⟩
      exact (hb1 _ _ _ _ _ q1).2 (by omega)
  cases x with
  | os b g=>exact ⟨⟨h.1.1,by have:=h0.1.2;omega⟩,rowOk (α:=fun t l=>RowVal (μ' b) l.length v) (fun g' own nf t l hb=>(h0.2 _ _ _ _ _ hb).1) h.2⟩
  | ep b g i off=>exact ⟨⟨h.1.1,by have:=h0.1.2;omega⟩,rowOk (α:=fun t l=>i<l.length∧∃ k c,μ' b=some (k,c)∧v = .pointer (some ⟨k,i*t.size+off,none⟩)) (fun g' own nf t l hb=>(h0.2 _ _ _ _ _ hb).1) h.2⟩
  | ptr b off=>exact hM.isPtr hl h0.1.2 h
  | fn f caps =>
    obtain ⟨vs0,_,h0⟩:=h0
    obtain ⟨vs,e,h⟩:=h
    exact ⟨vs,e,All2.both (fun p u u0 q0 q=>hM.isPtr hl q0.1.2 q) h0 h⟩
  | sl fr t l=>exact Holds.weaken (fun k hk _=>hM.D hk) (t:=.slice t) h
  | pp fr t y off =>
    obtain ⟨blk,base,cs,e,hd,hh,hc⟩:=h
    exact ⟨blk,base,cs,e,hM.D hd,hh.weaken fun k hk _=>hM.D hk,hc⟩
  | undef=>exact h
  | int k n=>exact h
  | bool b=>exact h
  | str s=>exact h
  | err b=>exact h
  | nil t=>exact h
  | old t l=>exact Holds.weaken (fun k hk _=>⟨hk.1,fun ho=>hk.2 (hM.own ho)⟩) (t:=.slice t) h
theorem Made.fit (hM:Made bl bl' mb gen) (hl:mb.length=bl.length) (hgen:∀ (b g:Nat) (own nf:Bool) (t:Ty) (l:List t.den),mb[b]? = some (.arr g own nf t l)→gen b=g) {x y:A} {v:Value} (hf:FitA bl' gen bl.length x y) (h:RepA E w' μ' bl' x v):RepA E w' μ' mb y v:=by
  rcases hf with rfl | ⟨rfl,hk⟩ | ⟨fr,fr',t,l,rfl,rfl,hfr⟩ | ⟨b,g,own,nf,t,l,rfl,rfl,hb,hbl⟩ | ⟨fr,t,rfl,rfl⟩
  · exact h.one
  · cases y with
    | ptr b off=>exact hM.isPtr hl hk h
    | fn f caps =>
      obtain ⟨vs,e,h⟩:=h
      refine ⟨vs,e,?_⟩
      have:∀ (ps:List (Nat × Nat)) (us:List Value),(∀ p∈ps,p.1<bl.length)→All2 (fun (p:Nat × Nat) u=>Ev.isPtr μ' bl' p.1 p.2 u) ps us→All2 (fun (p:Nat × Nat) u=>Ev.isPtr μ' mb p.1 p.2 u) ps us:=by
        intro ps
        induction ps with
        | nil=>intro us _ h;cases us with | nil=>trivial | cons _ _=>exact h.elim
        | cons p ps ih=>intro us hp h;cases us with
          | nil=>exact h.elim
          | cons u us=>exact ⟨hM.isPtr hl (hp p (List.mem_cons_self ..)) h.1,ih us (fun q hq=>hp q (List.mem_cons_of_mem _ hq)) h.2⟩
      exact this caps vs hk h
    | int k n=>exact h
    | bool b=>exact h
    | str s=>exact h
    | err b=>exact h
    | undef=>exact hk.elim
    | sl _ _ _=>exact hk.elim
    | os _ _=>exact hk.elim
    | ep _ _ _ _=>exact hk.elim
    | pp _ _ _ _=>exact hk.elim
    | nil _=>exact hk.elim
    | old _ _=>exact hk.elim
  · exact Holds.weaken (fun k hk _=>Env.D_less hfr (hM.D hk)) (t:=.slice t) h
  · refine ⟨⟨h.1.1,by omega⟩,fun g' own' nf' t' l' hb'=>?_⟩
    have hg:=hgen _ _ _ _ _ _ hb'
    refine ⟨Nat.le_of_eq hg,fun _=>?_⟩
    have hrow:=(h.2 _ _ _ _ _ hbl).2 rfl
    rcases hM b _ hb' with ⟨q0,q⟩ | ⟨cs0,c1,c2,_,q,e,_⟩ | ⟨g0,own0,nf0,t0,l0,g1,own1,nf1,l1,g2,own2,nf2,q0,q1,e,ho,hn,hg⟩
    · rw [hbl] at q;cases q;exact hrow
    · cases e
    · cases e;rw [hbl] at q1;cases q1;exact hrow
  · have h:v = .slice none 0 0:=h
    subst h
    exact ⟨none,0,rfl,Nat.le_refl _,fun i hi=>absurd hi (Nat.not_lt_zero _)⟩
theorem Made.trees (hM:Made bl bl' mb gen) (h:Trees E w' μ' bl'):Trees E w' μ' mb:=by
  refine h.sub (fun b g t l hb=>?_) fun k hk=>hM.own hk
  rcases hM b _ hb with ⟨q0,q⟩ | ⟨cs0,c1,c2,_,q,e,_⟩ | ⟨g0,own0,nf0,t0,l0,g1,own1,nf1,l1,g2,own2,nf2,q0,q1,e,ho,hn,hg⟩
  · exact ⟨g,q⟩
  · cases e
  · cases e
    rw [ho rfl,hn rfl] at q1
    exact ⟨g1,q1⟩
theorem Made.mem (hM:Made bl bl' mb gen) (hl:mb.length=bl.length) (hgen:∀ (b g:Nat) (own nf:Bool) (t:Ty) (l:List t.den),mb[b]? = some (.arr g own nf t l)→gen b=g) (hm0:Mem E w0 w μ bl) (hm:Mem E w0 w' μ' bl'):Mem E w0 w' μ' mb:=by
  refine ⟨hm.start,hm.below,hm.big,fun b blk hb=>?_,fun b b' k c c' h1 h2 a1 a2=>hm.apart b b' k c c' h1 h2 (hM.alive a1) (hM.alive a2)⟩
  rcases hM b _ hb with ⟨q0,q⟩ | ⟨cs0,c1,c2,_,q,rfl,hf⟩ | ⟨g0,own0,nf0,t0,l0,g1,own1,nf1,l1,g2,own2,nf2,q0,q1,rfl,ho,hn,hg⟩
  · have r0:=hm0.blocks b _ q0
    have r1:=hm.blocks b _ q
    cases blk with
    | dead=>trivial
    | var cs =>
      obtain ⟨_,_,vals0,_,_,_,_,_,_,p0⟩:=r0
      obtain ⟨k,c,vals,ty,fz,h1,h2,h3,h4,h5⟩:=r1
      exact ⟨k,c,vals,ty,fz,h1,h2,h3,h4,All2.both (R:=RepA E w' μ' bl') (S:=RepA E w μ bl) (T:=RepA E w' μ' mb) (fun x v v0 q0 q=>hM.rep hl q0 q) p0 h5⟩
    | arr g own nf t l =>
      rcases r1 with ⟨h1,h2⟩ | ⟨k,cap,vals,ty,fz,h1,h2,h3,h4,h5,h6,h7⟩
      · exact Or.inl ⟨h1,h2⟩
      · exact Or.inr ⟨k,cap,vals,ty,fz,h1,h2,h3,h4,h5,h6,fun i hi=>(h7 i hi).weaken fun k hk _=>hM.D hk⟩
  · obtain ⟨k,c,vals,ty,fz,h1,h2,h3,h4,h5⟩:=hm.blocks b _ q
    exact ⟨k,c,vals,ty,fz,h1,h2,h3,h4,All2.comp (R:=RepA E w' μ' bl') (T:=RepA E w' μ' mb) (fun x v y hf hr=>hM.fit hl hgen hf hr) hf h5⟩
  · rcases hm.blocks b _ q1 with ⟨h1,h2⟩ | ⟨k,cap,vals,ty,fz,h1,h2,h3,h4,h5,h6,h7⟩
    · exact Or.inl ⟨h1,h2⟩
    · exact Or.inr ⟨k,cap,vals,ty,fz,h1,h2,h3,h4,h5,h6,fun i hi=>(h7 i hi).weaken fun k hk _=>Env.D_less hn (hM.D hk)⟩
end
theorem shape_sound {kp:Keep} {ws:List Nat} {st':St} {μ':Lie} {a':Act} {w':World} (hR:Rel E w0 μ st a w) (hR':Rel E w0 μ' st' a' w') (hE:Evo w μ st.bl w' μ' st'.bl)
    (hfr:∀ t,t ∉ ws→a'.tmps[t]? = a.tmps[t]?) (hsame:∀ b:Nat,(shapeOf kp ws st).blks[b]? = some BlkK.same→st'.bl[b]? = st.bl[b]?) {z:(shapeOf kp ws st).den} (hun:(shapeOf kp ws st).un st'=some z) :
    Rel E w0 μ' ((shapeOf kp ws st).mk' st z) a' w'∧Evo w μ st.bl w' μ' ((shapeOf kp ws st).mk' st z).bl∧((shapeOf kp ws st).mk' st z).tmps.length=st.tmps.length ∧
      (∀ t,t ∉ ws→((shapeOf kp ws st).mk' st z).tmps[t]? = st.tmps[t]?)∧(∀ b:Nat,(shapeOf kp ws st).blks[b]? = some BlkK.same→((shapeOf kp ws st).mk' st z).bl[b]? = st.bl[b]?):=by
  have hs:∀ k∈(shapeOf kp ws st).slots,SOk st.bl.length k:=by
    intro k hk
    obtain ⟨i,hi⟩:=List.getElem?_of_mem hk
    exact (slotKinds_get kp ws st.bl st.tmps 0 i k hi).1
  have hb:∀ k∈(shapeOf kp ws st).blks,BOk st.bl.length k:=by
    intro k hk
    obtain ⟨i,hi⟩:=List.getElem?_of_mem hk
    obtain ⟨b,_,h2⟩:=blkKinds_get kp st.lock st.bl st.bl 0 i k hi
    cases k with
    | same=>trivial
    | var cs=>exact h2.2.2
    | arr grow g own nf t=>trivial
  have hsl:(shapeOf kp ws st).slots.length=st.tmps.length:=slotKinds_length kp ws st.bl st.tmps 0
  have hbl:(shapeOf kp ws st).blks.length=st.bl.length:=blkKinds_length kp st.lock st.bl st.bl 0
  obtain ⟨u1,u2,u3,u4⟩:=unmk_slots (n:=st.bl.length) (genAt (shapeOf kp ws st).blks st.bl) (shapeOf kp ws st).slots st.tmps st'.tmps _ z hun hs
  obtain ⟨v1,v2,v3⟩:=unmk_blks (n:=st.bl.length) (genAt (shapeOf kp ws st).blks st.bl) (shapeOf kp ws st).blks st.bl st'.bl _ u1 hb
  have hmb:((shapeOf kp ws st).mk' st z).bl=mkBlks (genAt (shapeOf kp ws st).blks st.bl) (shapeOf kp ws st).blks st.bl (mkSlots (genAt (shapeOf kp ws st).blks st.bl) (shapeOf kp ws st).slots st.tmps z).2:=rfl
  have hmt:((shapeOf kp ws st).mk' st z).tmps=(mkSlots (genAt (shapeOf kp ws st).blks st.bl) (shapeOf kp ws st).slots st.tmps z).1:=rfl
  rw [← hmb] at v1 v3
  rw [← hmt] at u2 u4
  obtain ⟨mb,hmbe⟩:∃ mb,mb=((shapeOf kp ws st).mk' st z).bl:=⟨_,rfl⟩
  rw [← hmbe] at v1 v3
  have hl:mb.length=st.bl.length:=v1.trans hbl
  have kindAt:∀ (b:Nat) (b2:Blk),mb[b]? = some b2→∃ k b0,(shapeOf kp ws st).blks[b]? = some k∧st.bl[b]? = some b0∧FromB st.bl.length (st.lock.contains b) k b0∧FitB st'.bl (genAt (shapeOf kp ws st).blks st.bl) st.bl.length k st.bl[b]? st'.bl[b]? b2:=by
    intro b b2 hb2
    have hlt:b<(shapeOf kp ws st).blks.length:=by rw [← v1];exact lt_of_get hb2
    obtain ⟨b2',q1,q2⟩:=v3 b _ (List.getElem?_eq_getElem hlt)
    rw [hb2] at q1
    cases q1
    obtain ⟨b0,p1,p2⟩:=blkKinds_get kp st.lock st.bl st.bl 0 b _ (List.getElem?_eq_getElem hlt)
    rw [Nat.zero_add] at p2
    exact ⟨_,b0,List.getElem?_eq_getElem hlt,p1,p2,q2⟩
  have hM:Made st.bl st'.bl mb (genAt (shapeOf kp ws st).blks st.bl):=by
    intro b b2 hb2
    obtain ⟨k,b0,hk,h0,hfrom,hfit⟩:=kindAt b b2 hb2
    cases k with
    | same =>
      have e:=hfit b0 h0
      have:=hsame b hk
      exact Or.inl ⟨by rw [h0,e],by rw [this,h0,e]⟩
    | var cs =>
      obtain ⟨_,⟨cs0,rfl⟩,_⟩:=hfrom
      obtain ⟨c1,c2,q1,q2,q3⟩:=hfit
      exact Or.inr (Or.inl ⟨cs0,c1,c2,h0,q1,q2,q3⟩)
    | arr grow g own nf t =>
      obtain ⟨_,g0,own0,nf0,l0,rfl,hg⟩:=hfrom
      obtain ⟨g1,own1,nf1,l,q1,q2,q3,q4,q5⟩:=hfit
      refine Or.inr (Or.inr ⟨g0,own0,nf0,t,l0,g1,own1,nf1,l,g,own,nf,h0,q1,q2,q3,q4,?_⟩)
      rcases hg with ⟨rfl,rfl⟩ | ⟨rfl,rfl⟩
      · exact Or.inl rfl
      · exact Or.inr ⟨rfl,(q5 rfl).symm⟩
  have hgen:∀ (b g:Nat) (own nf:Bool) (t:Ty) (l:List t.den),mb[b]? = some (.arr g own nf t l)→genAt (shapeOf kp ws st).blks st.bl b=g:=by
    intro b g own nf t l hb2
    obtain ⟨k,b0,hk,h0,hfrom,hfit⟩:=kindAt b _ hb2
    unfold genAt
    rw [hk]
    cases k with
    | same =>
      have e:=hfit b0 h0
      subst e
      simp only [h0]
    | var cs =>
      obtain ⟨c1,c2,q1,q2,q3⟩:=hfit
      cases q2
    | arr grow g' own' nf' t' =>
      obtain ⟨g1,own1,nf1,l',q1,q2,q3,q4,q5⟩:=hfit
      cases q2
      rfl
  have ev:=hM.evo hl hE
  have hmem:=hM.mem hl hgen hR.mem hR'.mem
  have hlt:((shapeOf kp ws st).mk' st z).tmps.length=st.tmps.length:=u2.trans hsl
  have hslot:∀ t,t ∉ ws→((shapeOf kp ws st).mk' st z).tmps[t]? = st.tmps[t]?:=by
    intro t ht
    rcases Nat.lt_or_ge t st.tmps.length with q | q
    · have hk:t<(shapeOf kp ws st).slots.length:=by omega
      obtain ⟨p1,p2,p3⟩:=slotKinds_get kp ws st.bl st.tmps 0 t _ (List.getElem?_eq_getElem hk)
      rw [Nat.zero_add] at p3
      obtain ⟨x2,q1,q2⟩:=u4 t _ (List.getElem?_eq_getElem hk)
      have hsm:=p3.mpr ht
      rw [q1]
      rcases q2 with ⟨_,q2⟩ | ⟨q2,_⟩
      · rw [q2 _ (List.getElem?_eq_getElem q),List.getElem?_eq_getElem q]
      · exact absurd hsm q2
    · rw [List.getElem?_eq_none (by omega),List.getElem?_eq_none q]
  rw [← hmbe]
  refine ⟨⟨hmbe ▸ hmem,?_,hR'.defers,hmbe ▸ hM.trees hR'.tree⟩,ev,hlt,hslot,?_⟩
  · rw [← hmbe]
    have hal:a'.tmps.toList.length=st.tmps.length:=by rw [← hR'.slots.length,u3,hsl]
    refine All2.of_get (by rw [hlt,hal]) fun i x v hx hv=>?_
    have hi:i<(shapeOf kp ws st).slots.length:=by rw [← u2];exact lt_of_get hx
    obtain ⟨p1,p2,p3⟩:=slotKinds_get kp ws st.bl st.tmps 0 i _ (List.getElem?_eq_getElem hi)
    rw [Nat.zero_add] at p3
    obtain ⟨x2,q1,q2⟩:=u4 i _ (List.getElem?_eq_getElem hi)
    rw [hx] at q1
    cases q1
    rcases q2 with ⟨hsm,q2⟩ | ⟨_,rfl | ⟨c1,c2,q2,rfl,q3⟩ | ⟨c1,c2,q2,rfl,q3⟩⟩
    · have ht:=p3.mp hsm
      have e:=q2 _ (List.getElem?_eq_getElem p2)
      obtain ⟨u,hu,hr⟩:=hR.slots.get (List.getElem?_eq_getElem p2)
      rw [Array.getElem?_toList] at hu hv
      rw [hfr i ht,hu] at hv
      cases hv
      rw [e]
      exact ev.repV hr
    · exact trivial
    · obtain ⟨u,hu,hr⟩:=hR'.slots.get q2
      rw [hv] at hu
      cases hu
      by_cases hc:c1 = .undef
      · subst hc
        rcases q3 with rfl | ⟨_,q⟩ | ⟨_,_,_,_,q,_⟩ | ⟨_,_,_,_,_,_,q,_⟩ | ⟨_,_,q,_⟩
        · exact trivial
        · exact q.elim
        · cases q
        · cases q
        · cases q
      · have hr:RepA E w' μ' st'.bl c1 v:=by
          cases c1 <;> first | exact absurd rfl hc | exact hr
        exact RepV.at (hM.fit hl hgen q3 hr)
    · obtain ⟨u,hu,hr⟩:=hR'.slots.get q2
      rw [hv] at hu
      cases hu
      obtain ⟨vs,e,hr⟩:=hr
      exact ⟨vs,e,All2.comp (R:=RepA E w' μ' st'.bl) (T:=RepA E w' μ' mb) (fun x v y hf hr=>hM.fit hl hgen hf hr) q3 hr⟩
  · intro b hk
    have hb2:b<(shapeOf kp ws st).blks.length:=lt_of_get hk
    obtain ⟨b2,q1,q2⟩:=v3 b _ hk
    rw [q1]
    have:b<st.bl.length:=by omega
    rw [List.getElem?_eq_getElem this]
    rw [q2 _ (List.getElem?_eq_getElem this)]
end
end Go.Proofs.YtnohkcklakipoaaGreatDoor.Ev
namespace Go.Proofs.YtnohkcklakipoaaGreatDoor.Ev
open Go Go.RowKit
set_option linter.unusedVariables false
set_option linter.unusedSimpArgs false
variable {ρ:Type}
def exOf:Ex→Exit
  | .normal=>.normal
  | .exit i=>.exit i
  | .ret=>.ret
section
variable {P:Program} {cx:Cx} {E:Env} {w0 w:World} {μ:Lie} {st:St} {a:Act}
def PostOf (E:Env) (w0:World) (μ:Lie) (st:St) (a:Act) (w:World) (W:List Nat) (K:Ex→St→Option ρ) (r:ρ) (e:Exit) (a':Act) (w':World):Prop :=
  ∃ ex st' μ',exOf ex=e∧K ex st'=some r∧Rel E w0 μ' st' a' w'∧Keeps W st a st' a'∧Goes w μ st w' μ' st'
def LoopAt (P:Program) (c:Code) (Q:Exit→Act→World→Prop) (a:Act) (w:World):Prop :=
  ∀ (b:Frame) (k:List Item) (cs:List Frame),∃ e a' w',Q e a' w'∧Arrives P (lone (b.at a (.code c :: .inLoop c :: k)) cs w) b k cs e a' w'
theorem loop_unroll {c:Code} {Q:Exit→Act→World→Prop} (h:c.wp P (Exit.then (LoopAt P c Q) Q) a w):LoopAt P c Q a w:=by
  intro b k cs
  obtain ⟨e,a₁,w₁,hq,harr⟩:=h b (.inLoop c :: k) cs
  cases e with
  | normal =>
    obtain ⟨e₂,a₂,w₂,hq₂,harr₂⟩:=hq b k cs
    exact ⟨e₂,a₂,w₂,hq₂,.of_steps (Steps.trans harr (.one step_inLoop)) harr₂⟩
  | exit id=>exact ⟨_,a₁,w₁,hq,.pass (x:=.inLoop c) rfl (fun _ _=>.inl (by simp)) harr⟩
  | goto l=>exact ⟨_,a₁,w₁,hq,.pass (x:=.inLoop c) rfl (fun _ _=>.inl (by simp)) harr⟩
  | ret=>exact ⟨_,a₁,w₁,hq,.pass (x:=.inLoop c) rfl (fun _ _=>.inl (by simp)) harr⟩
  | panic ch=>exact ⟨_,a₁,w₁,hq,.pass (x:=.inLoop c) rfl (fun _ _=>.inl (by simp)) harr⟩
  | outgrown=>exact ⟨_,a₁,w₁,hq,.pass (x:=.inLoop c) rfl (fun _ _=>.inl (by simp)) harr⟩
theorem wp_loop_at {c:Code} {Q:Exit→Act→World→Prop} (h:LoopAt P c Q a w):(Code.loop c).wp P Q a w:=by
  intro b k cs
  obtain ⟨e,a',w',hq,harr⟩:=h b k cs
  exact ⟨e,a',w',hq,.of_steps (.one step_loop) harr⟩
def CodeOk (P:Program) (E:Env) (c:Code) (ev:St→(Ex→St→Option ρ)→Option ρ) (W:List Nat):Prop :=
  ∀ (w0:World) (st:St) (K:Ex→St→Option ρ) (r:ρ) (μ:Lie) (a:Act) (w:World),Rel E w0 μ st a w→ev st K=some r→c.wp P (PostOf E w0 μ st a w W K r) a w
theorem evLoop_sound {c:Code} {ev:St→(Ex→St→Option ρ)→Option ρ} {ws:List Nat} (hc:CodeOk P E c ev ws) (kp:Keep) (n:Nat):CodeOk P E (.loop c) (evLoop kp ws n ev) ws:=by
  intro w0 st K r μ a w hR h
  unfold evLoop at h
  split at h
  case h_1=>cases h
  next x0 hx0 =>
  refine wp_loop_at ?_
  have key:∀ (n:Nat) (x:(shapeOf kp ws st).den) (μ1:Lie) (a1:Act) (w1:World),Rel E w0 μ1 ((shapeOf kp ws st).mk' st x) a1 w1→Evo w μ st.bl w1 μ1 ((shapeOf kp ws st).mk' st x).bl→(∀ t,t ∉ ws→a1.tmps[t]? = a.tmps[t]?) →
      ((shapeOf kp ws st).mk' st x).tmps.length=st.tmps.length→(∀ t,t ∉ ws→((shapeOf kp ws st).mk' st x).tmps[t]? = st.tmps[t]?)→(∀ b:Nat,(shapeOf kp ws st).blks[b]? = some BlkK.same→((shapeOf kp ws st).mk' st x).bl[b]? = st.bl[b]?) →
      ∀ F:((shapeOf kp ws st).den→Option ρ)→(shapeOf kp ws st).den→Option ρ,(∀ rec y,F rec y=some r→∃ K',ev ((shapeOf kp ws st).mk' st y) K'=some r ∧
          (∀ st',K' .normal st'=some r→∃ z,(shapeOf kp ws st).un st'=some z∧rec z=some r)∧(∀ e st',e ≠ .normal→K' e st'=some r→K e { st' with lock:=st.lock }=some r)) →
      iter F n x=some r→LoopAt P c (PostOf E w0 μ st a w ws K r) a1 w1:=by
    intro n
    induction n with
    | zero=>intro x μ1 a1 w1 _ _ _ _ _ _ F _ h;cases h
    | succ n ih =>
      intro x μ1 a1 w1 hR1 hE1 hf1 hl1 hs1 hb1 F hF h
      simp only [iter] at h
      obtain ⟨K',h,hn,he⟩:=hF _ _ h
      refine loop_unroll (wp_mono (hc w0 _ _ r μ1 a1 w1 hR1 h) ?_)
      rintro e a2 w2 ⟨ex,st2,μ2,rfl,hk,hR2,kp2,g2⟩
      have hE2:Evo w μ st.bl w2 μ2 st2.bl:=hE1.trans g2.evo
      have hlock:∀ b:Nat,b<st.bl.length→(b∈st.lock∨(shapeOf kp ws st).blks[b]? = some BlkK.same)→st2.bl[b]? = st.bl[b]?:=by
        intro b hlt hb
        have hsm:(shapeOf kp ws st).blks[b]? = some BlkK.same:=by
          rcases hb with hb | hb
          · have hlt':b<(shapeOf kp ws st).blks.length:=by rw [show (shapeOf kp ws st).blks.length=st.bl.length from blkKinds_length kp st.lock st.bl st.bl 0];exact hlt
            obtain ⟨b0,p1,p2⟩:=blkKinds_get kp st.lock st.bl st.bl 0 b _ (List.getElem?_eq_getElem hlt')
            rw [Nat.zero_add] at p2
            have hcon:st.lock.contains b=true:=by simpa using hb
            rw [List.getElem?_eq_getElem hlt']
            revert p2
            generalize (shapeOf kp ws st).blks[b]=k
            intro p2
            rw [hcon] at p2
            cases k with
            | same=>rfl
            | var cs=>exact absurd p2.1 (by simp)
            | arr grow g own nf t=>exact absurd p2.1 (by simp)
          · exact hb
        have hin:b∈((shapeOf kp ws st).mk' st x).lock:=by
          have:=lockOf_mem _ 0 b hsm
          rw [Nat.zero_add] at this
          exact List.mem_append_right _ this
        have hlen:b<((shapeOf kp ws st).mk' st x).bl.length:=by
          have:=hE1.len;omega
        rw [g2.kept b hin hlen,hb1 b hsm]
      have hf2:∀ t,t ∉ ws→a2.tmps[t]? = a.tmps[t]?:=fun t ht=>(kp2.frame t ht).trans (hf1 t ht)
      have out:∀ e,K e { st2 with lock:=st.lock }=some r→PostOf E w0 μ st a w ws K r (exOf e) a2 w2:=by
        intro e he
        refine ⟨e,_,μ2,rfl,he,⟨hR2.mem,hR2.slots,hR2.defers,hR2.tree⟩,⟨kp2.len.trans hl1,fun t ht=>(kp2.slots t ht).trans (hs1 t ht),hf2⟩,⟨hE2,rfl,fun b hb hlt=>hlock b hlt (Or.inl hb)⟩⟩
      cases ex with
      | normal =>
        obtain ⟨z,hz,hk⟩:=hn _ hk
        obtain ⟨r1,r2,r3,r4,r5⟩:=shape_sound (kp:=kp) (ws:=ws) hR hR2 hE2 hf2 (fun b hb=>hlock b (by
          have h1:=lt_of_get hb
          rwa [show (shapeOf kp ws st).blks.length=st.bl.length from blkKinds_length kp st.lock st.bl st.bl 0] at h1) (Or.inr hb)) hz
        exact ih z μ2 a2 w2 r1 r2 hf2 r3 r4 r5 F hF hk
      | exit i=>exact out _ (he _ _ (by simp) hk)
      | ret=>exact out _ (he _ _ (by simp) hk)
  obtain ⟨r1,r2,r3,r4,r5⟩:=shape_sound (kp:=kp) (ws:=ws) hR hR (Evo.refl _ _ _) (fun _ _=>rfl) (fun _ _=>rfl) hx0
  refine key n x0 μ a w r1 r2 (fun _ _=>rfl) r3 r4 r5 _ (fun rec y hy=>⟨_,hy,fun st' hk=>?_,fun e st' he hk=>?_⟩) h
  · simp only at hk
    split at hk
    · next z hz=>exact ⟨z,hz,hk⟩
    · cases hk
  · cases e with
    | normal=>exact absurd rfl he
    | exit i=>exact hk
    | ret=>exact hk
theorem opsDst_mem:∀ (os:List Oper) (i:Nat) (o:Oper) (d:Nat),os[i]? = some o→o.dst=some d→d∈opsDst os
  | [],i,o,d,h,_=>by simp at h
  | x :: os,0,o,d,h,hd=>by
    simp only [List.getElem?_cons_zero,Option.some.injEq] at h
    subst h
    simp [opsDst,hd]
  | x :: os,i+1,o,d,h,hd=>by
    have:=opsDst_mem os i o d (by simpa using h) hd
    unfold opsDst
    split
    · exact List.mem_cons_of_mem _ this
    · exact this
theorem runs_keeps {all:List Oper}:∀ (rest:List Oper) (st:St) (Xs:List V) (st':St),Runs cx all rest st Xs st'→st'.tmps.length=st.tmps.length∧∀ t,t ∉ opsDst rest→st'.tmps[t]? = st.tmps[t]?
  | [],st,Xs,st',h=>by obtain ⟨_,rfl⟩:=h;exact ⟨rfl,fun _ _=>rfl⟩
  | o :: rest,st,Xs,st',h=>by
    obtain ⟨X,Ys,_,_,h⟩:=h
    obtain ⟨h1,h2⟩:=runs_keeps rest _ _ _ h
    cases hd:o.dst with
    | none =>
      rw [hd] at h1 h2
      refine ⟨h1,fun t ht=>h2 t ?_⟩
      simpa [opsDst,hd] using ht
    | some d =>
      rw [hd] at h1 h2
      refine ⟨h1.trans (by simp [St.put]),fun t ht=>?_⟩
      simp only [opsDst,hd,List.mem_cons,not_or] at ht
      rw [h2 t ht.2]
      simp only [St.put]
      rw [List.getElem?_set_ne (by omega)]
theorem opsDst_take:∀ (os:List Oper) (m:Nat) (t:Nat),t∈opsDst (os.take m)→t∈opsDst os
  | [],m,t,h=>by simpa using h
  | o :: os,0,t,h=>by simp [opsDst] at h
  | o :: os,m+1,t,h=>by
    rw [List.take_succ_cons] at h
    unfold opsDst at h ⊢
    split at h
    · rcases List.mem_cons.mp h with h | h
      · exact List.mem_cons.mpr (Or.inl h)
      · exact List.mem_cons.mpr (Or.inr (opsDst_take os m t h))
    · exact opsDst_take os m t h
theorem PostOf.mono {W W':List Nat} {K:Ex→St→Option ρ} {r:ρ} (hW:∀ t,t∈W→t∈W') {e:Exit} {a':Act} {w':World} (h:PostOf E w0 μ st a w W K r e a' w'):PostOf E w0 μ st a w W' K r e a' w' :=
  let ⟨ex,st',μ',h1,h2,h3,h4,h5⟩:=h;⟨ex,st',μ',h1,h2,h3,h4.more hW,h5⟩
theorem opsDst_congr:∀ (l l':List Oper),l.map (·.dst)=l'.map (·.dst)→opsDst l=opsDst l'
  | [],[],_=>rfl
  | [],_ :: _,h=>by cases h
  | _ :: _,[],h=>by cases h
  | o :: l,o' :: l',h=>by
    simp only [List.map_cons,List.cons.injEq] at h
    unfold opsDst
    rw [h.1,opsDst_congr l l' h.2]
theorem more_opsDst {ops:Array Oper}:opsDst (moreOps ops).toList=opsDst ops.toList:=by
  refine opsDst_congr _ _ (List.ext_getElem? fun i=>?_)
  unfold moreOps
  simp only [List.getElem?_map,List.getElem?_mapIdx,Option.map_map]
  cases ops.toList[i]? with
  | none=>rfl
  | some o=>rfl
theorem hr_part (hcx:cx.good P E.G) {inl:Inl ρ} (hinl:InlOk P E inl) {path:List Nat} {ops:Array Oper} (hok:hrOk cx ops.toList=true) {K:St→Option ρ} {r:ρ} (h:evHr cx inl path ops st K=some r) (hR:Rel E w0 μ st a w) {Q:Exit→Act→World→Prop}
    (hQ:OpsK E w0 μ st a w (opsDst ops.toList) K r Q):wpAny P .any ops Q ops.size (Array.replicate ops.size false) a { w with drawn:=w.drawn+1 }:=by
  unfold evHr at h
  refine hr_any hcx hok h hR fun st' μ' a' w' hk hlen hkeep hR' hfr hg=>?_
  have hlen2:ops.size-tailAt ops.toList=(ops.toList.drop (tailAt ops.toList)).length:=by simp
  rw [hlen2]
  refine evOps_sound hcx hinl (W:=opsDst ops.toList) (fun i o d h1 h2=>opsDst_mem _ i o d h1 h2) _ (tailAt ops.toList) _ μ' a' w' rfl hR' hk ?_
  intro st2 μ2 a2 w2 q1 q2 q3 q4
  exact hQ st2 μ2 a2 w2 q1 q2 ((Keeps.mk hlen hkeep hfr).trans q3) (hg.trans q4)
theorem evCode_sound (hcx:cx.good P E.G) {inl:Inl ρ} (hinl:InlOk P E inl) {path:List Nat}:∀ c:Code,CodeOk P E c (evCode cx inl path c) (Code.writes c):=by
  intro c
  induction c with
  | skip =>
    intro w0 st K r μ a w hR h
    exact wp_skip ⟨.normal,st,μ,rfl,h,hR,Keeps.refl _ _ _,Goes.refl _ _ _⟩
  | region id ops draw =>
    intro w0 st K r μ a w hR h
    unfold evCode at h
    cases draw with
    | true =>
      simp only [cond_true] at h
      cases hhr:hrOk cx ops.toList with
      | true =>
        rw [hhr] at h
        simp only [cond_true] at h
        exact wp_region_any hcx.ok.mixed (hr_part hcx hinl hhr h hR fun st2 μ2 a2 w2 q1 q2 q3 q4=>⟨.normal,st2,μ2,rfl,q1,q2,q3,q4⟩)
      | false =>
      rw [hhr] at h
      simp only [cond_false] at h
      cases hmo:moreOk ops.toList&&hrOk cx (moreOps ops).toList with
      | true =>
        rw [hmo] at h
        simp only [cond_true] at h
        rw [Bool.and_eq_true] at hmo
        have:=hr_part (Q:=fun e a' w'=>e = .normal∧PostOf E w0 μ st a w (opsDst ops.toList) K r .normal a' w') hcx hinl hmo.2 h hR fun st2 μ2 a2 w2 q1 q2 q3 q4=>⟨rfl,.normal,st2,μ2,rfl,q1,q2,by rw [more_opsDst] at q3;exact q3,q4⟩
        rw [more_size] at this
        have:=more_any hmo.1 (fun _ _ _ q=>q.1) _ _ _ _ (by simp) this
        refine wp_mono (wp_region_any hcx.ok.mixed this) ?_
        rintro e a' w' ⟨rfl,q⟩
        exact q
      | false =>
      rw [hmo] at h
      simp only [cond_false] at h
      have hd:=(cond_none h).1
      replace h:=(cond_none h).2
      obtain ⟨Xs,st',h1,h2⟩:=evDraw_runs _ _ h
      obtain ⟨al,hal,h2⟩:=evGrow_some h2
      have hkeep:=runs_keeps _ _ _ _ h1
      have htake:∀ t,t∈opsDst (ops.toList.take (tailAt ops.toList))→t∈opsDst ops.toList:=opsDst_take _ _
      have hfin:(fin al st').tmps.length=st.tmps.length∧∀ t,t ∉ opsDst ops.toList→(fin al st').tmps[t]? = st.tmps[t]?:=by
        cases hal with
        | none _=>exact ⟨hkeep.1,fun t ht=>hkeep.2 t fun q=>ht (htake t q)⟩
        | some i0 oa tid d t _ q1 _ q3 _ =>
          refine ⟨by simp only [fin,grownSt,St.put,List.length_set];exact hkeep.1,fun u hu=>?_⟩
          have hne:d≠u:=by rintro rfl;exact hu (opsDst_mem _ i0 oa d q1 q3)
          simp only [fin,grownSt,St.put]
          rw [List.getElem?_set_ne hne]
          exact hkeep.2 u fun q=>hu (htake u q)
      refine draw_sound hcx hd hal h1 hR fun μ' a' w' hR' hk hg=>?_
      have hlen:ops.size-tailAt ops.toList=(ops.toList.drop (tailAt ops.toList)).length:=by simp
      rw [hlen]
      refine evOps_sound hcx hinl (W:=opsDst ops.toList) (fun i o d h1 h2=>opsDst_mem _ i o d h1 h2) _ (tailAt ops.toList) _ μ' a' w' rfl hR' h2 ?_
      intro st2 μ2 a2 w2 q1 q2 q3 q4
      exact ⟨.normal,st2,μ2,rfl,q1,q2,(Keeps.mk hfin.1 hfin.2 hk).trans q3,hg.trans q4⟩
    | false =>
    simp only [cond_false] at h
    refine wp_region ?_
    rw [List.range_eq_range',show ops.size=ops.toList.length by simp]
    split at h
    · next q hq =>
      obtain ⟨pre,q⟩:=q
      obtain ⟨o,p,hops,hpair,hpre⟩:=clearAt_some hq
      have hlen:ops.toList.length=pre.length+2:=by rw [hops];simp
      rw [hlen,show List.range' 0 (pre.length+2)=List.range' 0 pre.length++[pre.length,pre.length+1] by rw [← List.range'_append_1];simp [List.range'_succ]]
      have hd:q.2.2.2∈opsDst ops.toList:=opsDst_mem _ pre.length o _ (by rw [hops];simp) (clearPair_some hpair).2.1
      refine evOps_part hcx hinl (W:=opsDst ops.toList) pre 0 st μ a w (fun j o' hj=>?_) (fun o' ho'=>⟨hpre o' ho',fun d hd=>?_⟩) hR h fun st1 μ1 a1 w1 k1 r1 p1 g1=>?_
      · rw [Nat.zero_add,hops,List.getElem?_append_left (lt_get hj)];exact hj
      · obtain ⟨j,hj⟩:=List.getElem?_of_mem ho'
        exact opsDst_mem _ j o' d (by rw [hops,List.getElem?_append_left (lt_get hj)];exact hj) hd
      · exact evClear_sound hcx hq hd r1 k1 fun st2 μ2 a2 w2 q1 q2 q3 q4=>⟨.normal,st2,μ2,rfl,q1,q2,p1.trans q3,g1.trans q4⟩
    refine evOps_sound hcx hinl (W:=opsDst ops.toList) (fun i o d h1 h2=>opsDst_mem _ i o d h1 h2) ops.toList 0 st μ a w rfl hR h ?_
    intro st' μ' a' w' q1 q2 q3 q4
    exact ⟨.normal,st',μ',rfl,q1,q2,q3,q4⟩
  | seq x y ihx ihy =>
    intro w0 st K r μ a w hR h
    unfold evCode at h
    refine wp_seq (wp_mono (ihx w0 st _ r μ a w hR h) ?_)
    rintro e a1 w1 ⟨ex,st1,μ1,rfl,hk,hR1,k1,g1⟩
    have out:∀ ex,K ex st1=some r→PostOf E w0 μ st a w (Code.writes (.seq x y)) K r (exOf ex) a1 w1:=fun ex hk=>⟨ex,st1,μ1,rfl,hk,hR1,k1.more fun t ht=>List.mem_append_left _ ht,g1⟩
    cases ex with
    | normal =>
      refine wp_mono (ihy w0 st1 K r μ1 a1 w1 hR1 hk) ?_
      rintro e a2 w2 ⟨ex,st2,μ2,rfl,hk,hR2,k2,g2⟩
      exact ⟨ex,st2,μ2,rfl,hk,hR2,(k1.more fun t ht=>List.mem_append_left _ ht).trans (k2.more fun t ht=>List.mem_append_right _ ht),g1.trans g2⟩
    | exit i=>exact out _ hk
    | ret=>exact out _ hk
  | cond c x y ihx ihy =>
    intro w0 st K r μ a w hR h
    cases c with
    | tmp t =>
      unfold evCode at h
      split at h
      case h_2=>cases h
      next b hb =>
      have hv:=hR.tmp t
      rw [hb] at hv
      have hv:a.tmps.getD t undef = .bool b:=hv
      have rb:∀ c,c=b→Rel E w0 μ (st.put (some t) (.at (.bool c))) a w:=fun c e=>hR.refine (by rw [hv,e];rfl)
      have kp:∀ X,Keeps (Code.writes (.cond (.tmp t) x y)) st a (st.put (some t) X) a:=fun X=>Keeps.only (by simp [Code.writes]) X
      cases b with
      | true =>
        simp only [cond_true] at h
        refine wp_cond_true hv (wp_mono (ihx w0 _ K r μ a w (rb _ rfl) h) ?_)
        rintro e a2 w2 ⟨ex,st2,μ2,rfl,hk,hR2,k2,g2⟩
        exact ⟨ex,st2,μ2,rfl,hk,hR2,(kp _).trans (k2.more fun t ht=>by simp [Code.writes,ht]),(goes_put _ _).trans g2⟩
      | false =>
        simp only [cond_false] at h
        refine wp_cond_false hv (wp_mono (ihy w0 _ K r μ a w (rb _ rfl) h) ?_)
        rintro e a2 w2 ⟨ex,st2,μ2,rfl,hk,hR2,k2,g2⟩
        exact ⟨ex,st2,μ2,rfl,hk,hR2,(kp _).trans (k2.more fun t ht=>by simp [Code.writes,ht]),(goes_put _ _).trans g2⟩
    | const v=>unfold evCode at h;cases h
    | global g=>unfold evCode at h;cases h
    | func f=>unfold evCode at h;cases h
  | block id x ih =>
    intro w0 st K r μ a w hR h
    unfold evCode at h
    refine wp_block (wp_mono (ih w0 st _ r μ a w hR h) ?_)
    rintro e a1 w1 ⟨ex,st1,μ1,rfl,hk,hR1,k1,g1⟩
    cases ex with
    | normal=>exact ⟨.normal,st1,μ1,rfl,hk,hR1,k1,g1⟩
    | ret=>exact ⟨.ret,st1,μ1,rfl,hk,hR1,k1,g1⟩
    | exit i =>
      simp only [exOf,Exit.inBlock]
      by_cases hi:i=id
      · subst hi
        simp only [beq_self_eq_true,cond_true] at hk
        rw [if_pos rfl]
        exact ⟨.normal,st1,μ1,rfl,hk,hR1,k1,g1⟩
      · have:(i == id)=false:=by simpa using hi
        simp only [this,cond_false] at hk
        rw [if_neg hi]
        exact ⟨.exit i,st1,μ1,rfl,hk,hR1,k1,g1⟩
  | loop x ih =>
    intro w0 st K r μ a w hR h
    unfold evCode at h
    exact evLoop_sound ih _ _ w0 st K r μ a w hR h
  | exit id =>
    intro w0 st K r μ a w hR h
    exact wp_exit ⟨.exit id,st,μ,rfl,h,hR,Keeps.refl _ _ _,Goes.refl _ _ _⟩
  | ret =>
    intro w0 st K r μ a w hR h
    exact wp_ret ⟨.ret,st,μ,rfl,h,hR,Keeps.refl _ _ _,Goes.refl _ _ _⟩
  | rangeFunc f ps x y _ _=>intro w0 st K r μ a w hR h;unfold evCode at h;cases h
  | scope x _=>intro w0 st K r μ a w hR h;unfold evCode at h;cases h
  | label l=>intro w0 st K r μ a w hR h;unfold evCode at h;cases h
  | goto l=>intro w0 st K r μ a w hR h;unfold evCode at h;cases h
  | refuse=>intro w0 st K r μ a w hR h;unfold evCode at h;cases h
end
end Go.Proofs.YtnohkcklakipoaaGreatDoor.Ev
namespace Go.Proofs.YtnohkcklakipoaaGreatDoor.Ev
open Go Go.RowKit
set_option linter.unusedVariables false
set_option linter.unusedSimpArgs false
variable {ρ:Type}
section
variable {P:Program} {cx:Cx} {E:Env} {w0 w:World} {μ:Lie} {st:St} {a:Act}
def resRun (tmps:Array Value):ResultVar→Sem Value
  | .tmp t=>pure (tmps.getD t undef)
  | .cell a t=>do loadVar t (← asAddr (tmps.getD a undef))
theorem results_eq (fn:Func) (tmps:Array Value):results fn tmps=(do let vs ← fn.results.mapM (resRun tmps);pure (if h:vs.size=1 then vs[0] else .tuple vs)):=by
  unfold results
  congr 1
theorem resOf_sound (hcx:cx.ok P) (hR:Rel E w0 μ st a w):∀ (rs:List ResultVar) (xs:List (Bool × List A)),resOf st.bl cx st rs=some xs →
    ∃ vs:List Value,(rs.mapM (resRun a.tmps)).run P w = .ok vs w∧All2 (RepR E w μ st.bl) xs vs
  | [],xs,h=>by simp only [resOf] at h;cases h;exact ⟨[],by simp,trivial⟩
  | .tmp t :: rs,xs,h=>by
    simp only [resOf] at h
    have hv:=hR.tmp t
    split at h
    · cases h
    · next x ys hne hx hys =>
      cases h
      obtain ⟨vs,h1,h2⟩:=resOf_sound hcx hR rs ys hys
      rw [hx] at hv
      have hr:RepA E w μ st.bl x (a.tmps.getD t undef):=by
        cases x <;> first | exact hv | exact absurd rfl (hne)
      exact ⟨_ :: vs,by simp only [List.mapM_cons,resRun,Sem.run_bind,Sem.run_pure,Result.andThen_ok,h1],⟨hr,trivial⟩,h2⟩
    · next cs ys hx hys =>
      cases h
      obtain ⟨vs,h1,h2⟩:=resOf_sound hcx hR rs ys hys
      rw [hx] at hv
      exact ⟨_ :: vs,by simp only [List.mapM_cons,resRun,Sem.run_bind,Sem.run_pure,Result.andThen_ok,h1],hv,h2⟩
    · cases h
  | .cell b t :: rs,xs,h=>by
    simp only [resOf] at h
    split at h
    case h_2=>cases h
    next ty cs off ys ht hc hys =>
    have hle:=(cond_none h).1
    replace h:=(cond_none h).2
    have hle:off+ty.size≤cs.length:=Nat.le_of_ble_eq_true hle
    obtain ⟨blk,base,us,hv,hrep,hcell⟩:=cellsAt_sound hR.mem (hR.tmp b) hc
    obtain ⟨vs,h1,h2⟩:=resOf_sound hcx hR rs ys hys
    have hlen:=hrep.length
    have hrun:=run_loadVar (hcx.ty t ty ht) (w:=w) (blk:=blk) (o:=base+off) (vs:=(us.drop off).take ty.size) (by simp;omega) (fun j c hj=>by
      obtain ⟨hj,_⟩:=getElem?_part hj
      rw [Nat.add_assoc];exact hcell _ _ hj)
    have hto:=takeOut_sound hrep hle
    obtain ⟨u,hrun,hto⟩:∃ u,(loadVar t ⟨blk,base+off,none⟩).run P w = .ok u w∧RepV E w μ st.bl (takeOut ty cs off) u:=⟨_,hrun,hto⟩
    refine ⟨u :: vs,?_,?_⟩
    · simp only [List.mapM_cons,resRun,Sem.run_bind,Sem.run_pure,Result.andThen_ok,hv,asAddr,hrun,h1]
    · split at h
      · cases h
      · next x hne hx =>
        cases h
        refine ⟨?_,h2⟩
        rw [hx] at hto
        have hr:RepA E w μ st.bl x u:=by
          cases x <;> first | exact hto | exact absurd rfl (hne)
        exact ⟨hr,trivial⟩
      · next x hx =>
        cases h
        refine ⟨?_,h2⟩
        rw [hx] at hto
        exact hto
      · cases h
theorem results_sound (hcx:cx.ok P) (hR:Rel E w0 μ st a w) {fn:Func} {xs:List (Bool × List A)} (h:resOf st.bl cx st fn.results.toList=some xs) :
    ∃ vs:List Value,(results fn a.tmps).run P w = .ok (packed vs) w∧All2 (RepR E w μ st.bl) xs vs:=by
  obtain ⟨vs,h1,h2⟩:=resOf_sound hcx hR _ _ h
  refine ⟨vs,?_,h2⟩
  rw [results_eq]
  have hm:(fn.results.mapM (resRun a.tmps)).run P w = .ok vs.toArray w:=by
    rw [Array.mapM_eq_mapM_toList]
    simp only [Sem.run_map,h1]
    rfl
  rw [Sem.run_bind,hm]
  simp only [Result.andThen_ok,Sem.run_pure]
  congr 1
  unfold packed
  split
  · next h =>
    cases vs with
    | nil=>simp at h
    | cons v vs=>cases vs with
      | nil=>rfl
      | cons u us=>simp at h
  · next h =>
    cases vs with
    | nil=>rfl
    | cons v vs=>cases vs with
      | nil=>exact absurd rfl h
      | cons u us=>rfl
theorem evInl_sound (hcx:cx.good P E.G):∀ d:Nat,InlOk P E (evInl (ρ:=ρ) cx d)
  | 0=>by
    intro w0 w μ st a path f Xs vs K r hR hX h
    cases h
  | d+1=>by
    intro w0 w μ st a path f Xs vs K r hR hX h
    simp only [evInl] at h
    split at h
    · next s hs=>exact ⟨(hcx.ptr f s hs).fn,evPtr_sound (hcx.ptr f s hs) hR hX h⟩
    · next s _ hs=>exact ⟨(hcx.row f s hs).fn,evRow_sound (hcx.row f s hs) hR hX h⟩
    split at h
    case h_2=>cases h
    next fn hf =>
    obtain ⟨p1,p2,p3⟩:=hcx.ok.body f fn hf
    split at h
    case h_2=>cases h
    next c hc =>
    refine ⟨⟨fn,p1,p2,p3⟩,calls_of_wp p1 hc ?_⟩
    have hlen:=hX.length
    have hR1:Rel E w0 μ { st with tmps:=enter fn.ntmps Xs } { tmps:=vs.toArray++Array.replicate (fn.ntmps-vs.toArray.size) undef,defers:=[] } w:=by
      refine ⟨hR.mem,?_,rfl,hR.tree⟩
      simp only [enter,Array.toList_append,Array.toList_replicate,List.size_toArray]
      rw [hlen]
      refine hX.append ?_
      generalize fn.ntmps-vs.length=m
      induction m with
      | zero=>trivial
      | succ m ih=>exact ⟨RepV.undef,ih⟩
    refine wp_mono (evCode_sound hcx (evInl_sound hcx d) c w0 _ _ r μ _ w hR1 h) ?_
    rintro e a' w' ⟨ex,st',μ',rfl,hk,hR',kp,g⟩
    have fin:(match resOf st'.bl cx st' fn.results.toList with
          | some vs=>K (toValue vs) { st' with tmps:=st.tmps }
          | none=>none)=some r→a'.defers=[]∧∃ v,(results fn a'.tmps).run P w' = .ok v w'∧CallPost E w0 μ st a w K r (.returned v) w':=by
      intro hk
      split at hk
      case h_2=>cases hk
      next xs hxs =>
      obtain ⟨us,q1,q2⟩:=results_sound hcx.ok hR' hxs
      refine ⟨hR'.defers,packed us,q1,_,_,μ',hk,toValue_rep q2,?_,rfl,⟨g.evo,g.lock,g.kept⟩⟩
      exact ⟨hR'.mem,All2.imp (fun _ _ hx=>g.evo.repV hx) hR.slots,hR.defers,hR'.tree⟩
    cases ex with
    | exit i=>cases hk
    | normal =>
      obtain ⟨h1,v,h2,h3⟩:=fin hk
      exact ⟨h1,v,h2,h3⟩
    | ret =>
      obtain ⟨h1,v,h2,h3⟩:=fin hk
      exact ⟨h1,v,h2,h3⟩
end
end Go.Proofs.YtnohkcklakipoaaGreatDoor.Ev
namespace Go.Proofs.YtnohkcklakipoaaGreatDoor.Ev
open Go Go.RowKit
set_option linter.unusedVariables false
set_option linter.unusedSimpArgs false
section
variable {P:Program} {cx:Cx} {E:Env} {w0 w:World} {μ:Lie} {st:St} {a:Act} {bl:List Blk}
theorem ownRefs_mine:∀ (cs:List A) (bs:List (Option Nat)),ownRefs bl cs=some bs→∀ b,some b∈bs→mine bl b
  | [],bs,h,b,hb=>by simp only [ownRefs] at h;cases h;simp at hb
  | c :: cs,bs,h,b,hb=>by
    cases c with
    | sl fr t l=>simp [ownRefs] at h
    | old t l=>simp [ownRefs] at h
    | nil t =>
      simp only [ownRefs] at h
      split at h
      · next bs' hbs =>
        cases h
        rcases List.mem_cons.mp hb with e | hb
        · cases e
        · exact ownRefs_mine cs bs' hbs b hb
      · cases h
    | os b' g =>
      simp only [ownRefs] at h
      split at h
      · next g' nf t l bs' hbl hbs =>
        replace h:=(cond_none h).2
        cases h
        rcases List.mem_cons.mp hb with e | hb
        · cases e;unfold mine;rw [hbl]
        · exact ownRefs_mine cs bs' hbs b hb
      · cases h
    | undef=>exact ownRefs_mine cs bs h b hb
    | int k n=>exact ownRefs_mine cs bs h b hb
    | bool q=>exact ownRefs_mine cs bs h b hb
    | str s=>exact ownRefs_mine cs bs h b hb
    | err q=>exact ownRefs_mine cs bs h b hb
    | ptr q off=>exact ownRefs_mine cs bs h b hb
    | ep q g i off=>exact ownRefs_mine cs bs h b hb
    | pp fr t x off=>exact ownRefs_mine cs bs h b hb
    | fn f caps=>exact ownRefs_mine cs bs h b hb
def HandsOn (bl:List Blk) (fresh:Bool) (blk:Blk) (o:Option (Option Nat)):Prop :=
  ∃ e l,blk = .arr 0 true fresh e l∧match o with
    | some (some b)=>∃ g nf,bl[b]? = some (.arr g true nf e l)∧(fresh=true→nf=true∨e.flat=true)
    | some none=>l=[]
    | none=>False
theorem theRows_mem:∀ {bs:List (Option Nat)} {b:Nat},b∈theRows bs↔some b∈bs
  | [],b=>by simp [theRows]
  | none :: bs,b=>by simp only [theRows,theRows_mem (bs:=bs),List.mem_cons];simp
  | some c :: bs,b=>by simp only [theRows,theRows_mem (bs:=bs),List.mem_cons,Option.some.injEq]
theorem own_take {fresh:Bool} {S:Nat→Prop} (hm:Mem E w0 w μ bl) (hS:∀ k,E.D μ bl fresh k→S k) :
    ∀ (t:Ty) (cs:List A) (us:List Value) (x:t.den) (rest:List A) (bs:List (Option Nat)),RepAs E w μ bl cs us→t.ofCells fresh (cs.map (A.view bl))=some (x,rest)→ownRefs bl cs=some bs →
      ∃ c1 c2 u1 u2 b1 b2,cs=c1++c2∧us=u1++u2∧bs=b1++b2∧rest=c2.map (A.view bl)∧RepAs E w μ bl c2 u2∧ownRefs bl c2=some b2∧OwnHolds w S t x u1 (b1.map (·.bind μ)) ∧
        ∀ (i:Nat) (blk:Blk),(t.ownRows fresh x)[i]? = some blk→HandsOn bl fresh blk (b1[i]?:Option (Option Nat)):=by
  intro t
  have base:∀ (y:A),(∀ b g,y ≠ .os b g)→(∀ f t l,y ≠ .sl f t l)→∀ (c:A) (cs:List A) (bs:List (Option Nat)),c.view bl=y→y ≠ .undef→ownRefs bl (c :: cs)=some bs→c=y∧ownRefs bl cs=some bs:=by
    intro y hy1 hy2 c cs bs hv hu h
    have hc:c=y:=by
      cases c with
      | os b g =>
        simp only [A.view] at hv
        split at hv
        · next g' own nf t l hb =>
          cases hg:g == g' with
          | true=>rw [hg] at hv;exact absurd hv.symm (hy2 _ _ _)
          | false=>rw [hg] at hv;exact absurd hv.symm hu
        · exact absurd hv.symm hu
      | nil t=>exact absurd hv.symm (hy2 _ _ _)
      | old t l=>exact absurd hv.symm (hy2 _ _ _)
      | _=>exact hv
    have hn1:∀ t,c ≠ .nil t:=by rintro t rfl;exact hy2 _ _ _ hv.symm
    have hn2:∀ t l,c ≠ .old t l:=by rintro t l rfl;exact hy2 _ _ _ hv.symm
    subst hc
    refine ⟨rfl,?_⟩
    cases c <;> first | exact h | exact absurd rfl (hy1 _ _) | exact absurd rfl (hy2 _ _ _) | exact absurd rfl (hn1 _) | exact absurd rfl (hn2 _ _)
  induction t with
  | int k =>
    intro cs us x rest bs hr hc hb
    cases cs with
    | nil=>simp [Ty.ofCells] at hc
    | cons c cs =>
      cases us with
      | nil=>exact hr.elim
      | cons u us =>
        simp only [List.map_cons] at hc
        cases hv:c.view bl <;> rw [hv] at hc <;> simp [Ty.ofCells] at hc
        obtain ⟨rfl,rfl,rfl⟩:=hc
        obtain ⟨rfl,hb'⟩:=base _ (by simp) (by simp) c cs bs hv (by simp) hb
        exact ⟨[_],cs,[u],us,[],bs,rfl,rfl,rfl,rfl,hr.2,hb',⟨rfl,congrArg (· :: []) hr.1⟩,fun i blk hi=>by simp [Ty.ownRows] at hi⟩
  | bool =>
    intro cs us x rest bs hr hc hb
    cases cs with
    | nil=>simp [Ty.ofCells] at hc
    | cons c cs =>
      cases us with
      | nil=>exact hr.elim
      | cons u us =>
        simp only [List.map_cons] at hc
        cases hv:c.view bl <;> rw [hv] at hc <;> simp [Ty.ofCells] at hc
        obtain ⟨rfl,rfl⟩:=hc
        obtain ⟨rfl,hb'⟩:=base _ (by simp) (by simp) c cs bs hv (by simp) hb
        exact ⟨[_],cs,[u],us,[],bs,rfl,rfl,rfl,rfl,hr.2,hb',⟨rfl,congrArg (· :: []) hr.1⟩,fun i blk hi=>by simp [Ty.ownRows] at hi⟩
  | str =>
    intro cs us x rest bs hr hc hb
    cases cs with
    | nil=>simp [Ty.ofCells] at hc
    | cons c cs =>
      cases us with
      | nil=>exact hr.elim
      | cons u us =>
        simp only [List.map_cons] at hc
        cases hv:c.view bl <;> rw [hv] at hc <;> simp [Ty.ofCells] at hc
        obtain ⟨rfl,rfl⟩:=hc
        obtain ⟨rfl,hb'⟩:=base _ (by simp) (by simp) c cs bs hv (by simp) hb
        exact ⟨[_],cs,[u],us,[],bs,rfl,rfl,rfl,rfl,hr.2,hb',⟨rfl,congrArg (· :: []) hr.1⟩,fun i blk hi=>by simp [Ty.ownRows] at hi⟩
  | adr =>
    intro cs us x rest bs hr hc hb
    cases cs with
    | nil=>simp [Ty.ofCells] at hc
    | cons c cs=>simp only [List.map_cons] at hc;simp [Ty.ofCells] at hc
  | err =>
    intro cs us x rest bs hr hc hb
    cases cs with
    | nil=>simp [Ty.ofCells] at hc
    | cons c cs =>
      cases us with
      | nil=>exact hr.elim
      | cons u us =>
        simp only [List.map_cons] at hc
        cases hv:c.view bl <;> rw [hv] at hc <;> simp [Ty.ofCells] at hc
        obtain ⟨rfl,rfl⟩:=hc
        obtain ⟨rfl,hb'⟩:=base _ (by simp) (by simp) c cs bs hv (by simp) hb
        exact ⟨[_],cs,[u],us,[],bs,rfl,rfl,rfl,rfl,hr.2,hb',⟨rfl,u,rfl,hr.1⟩,fun i blk hi=>by simp [Ty.ownRows] at hi⟩
  | slice e ih =>
    intro cs us x rest bs hr hc hb
    cases cs with
    | nil=>simp [Ty.ofCells] at hc
    | cons c cs =>
      cases us with
      | nil=>exact hr.elim
      | cons u us =>
        cases c with
        | sl f t l=>simp [ownRefs] at hb
        | old t l=>simp [ownRefs] at hb
        | nil t =>
          simp only [ownRefs] at hb
          split at hb
          case h_2=>cases hb
          next bs' hbs =>
          cases hb
          simp only [List.map_cons,A.view,Ty.ofCells] at hc
          split at hc
          case h_2=>cases hc
          next p hq =>
          subst p
          replace hc:=(cond_none' hc).2
          cases hc
          have hv:u = .slice none 0 0:=hr.1
          subst hv
          refine ⟨[_],cs,[_],us,[none],bs',rfl,rfl,rfl,rfl,hr.2,hbs,⟨_,none,rfl,rfl,⟨rfl,rfl⟩,Or.inl ⟨rfl,rfl⟩⟩,fun i blk hi=>?_⟩
          cases i with
          | succ i=>simp [Ty.ownRows] at hi
          | zero =>
            simp only [Ty.ownRows,List.getElem?_cons_zero,Option.some.injEq] at hi
            exact ⟨_,_,hi.symm,rfl⟩
        | os b g =>
          simp only [ownRefs] at hb
          split at hb
          case h_2=>cases hb
          next g' nf t l bs' hbl hbs =>
          have hg:=(cond_none hb).1
          replace hb:=(cond_none hb).2
          cases hb
          have hgg:g=g':=by simpa using hg
          subst hgg
          simp only [List.map_cons,A.view,hbl,beq_self_eq_true,cond_true,Ty.ofCells] at hc
          split at hc
          case h_2=>cases hc
          next p hq =>
          subst p
          have hn:=(cond_none' hc).1
          replace hc:=(cond_none' hc).2
          cases hc
          have hrow:=(hr.1.2 _ _ _ _ _ hbl).2 rfl
          refine ⟨[_],cs,[u],us,[some b],bs',rfl,rfl,rfl,rfl,hr.2,hbs,⟨u,μ b,rfl,rfl,hrow,?_⟩,fun i blk hi=>?_⟩
          rotate_left
          · cases i with
            | succ i=>simp [Ty.ownRows] at hi
            | zero =>
              simp only [Ty.ownRows,List.getElem?_cons_zero,Option.some.injEq] at hi
              refine ⟨_,_,hi.symm,_,_,hbl,fun hq=>?_⟩
              subst hq
              cases nf with
              | true=>exact Or.inl rfl
              | false=>exact Or.inr (by simpa using hn)
          rcases hm.blocks b _ hbl with ⟨h1,h2⟩ | ⟨k,cap,vals,ty,fz,h1,h2,h3,h4,h5,h6,h7⟩
          · exact Or.inl ⟨h1,h2⟩
          · refine Or.inr ⟨k,cap,vals,ty,fz,h1,h3,h4,h5,h6,fun i hi=>?_⟩
            cases hf:t.flat with
            | true=>exact (h7 i hi).flat hf
            | false =>
              rw [hf,Bool.or_false] at hn
              refine (h7 i hi).weaken fun k hk _=>hS k (Env.D_less (fun q=>?_) hk)
              subst q
              simpa using hn
        | _=>simp [Ty.ofCells,A.view] at hc
  | pair p q ihp ihq =>
    intro cs us x rest bs hr hc hb
    simp only [Ty.ofCells] at hc
    split at hc
    case h_2=>cases hc
    next x1 r1 h1 =>
    split at hc
    case h_2=>cases hc
    next x2 r2 h2 =>
    cases hc
    obtain ⟨c1,c2,u1,u2,b1,b2,rfl,rfl,rfl,rfl,p1,p2,p3,p4⟩:=ihp cs us x1 r1 bs hr h1 hb
    obtain ⟨c3,c4,u3,u4,b3,b4,rfl,rfl,rfl,rfl,q1,q2,q3,q4⟩:=ihq c2 u2 x2 _ b2 p1 h2 p2
    refine ⟨c1++c3,c4,u1++u3,u4,b1++b3,b4,by simp,by simp,by simp,rfl,q1,q2,⟨u1,u3,b1.map (·.bind μ),b3.map (·.bind μ),rfl,by simp,p3,q3⟩,fun i blk hi=>?_⟩
    have hl1:b1.length=p.rows:=by have:=p3.rows;simpa using this
    have hl2:=ownRows_length fresh p x1
    rw [show (p.pair q).ownRows fresh (x1,x2)=p.ownRows fresh x1++q.ownRows fresh x2 from rfl] at hi
    rcases Nat.lt_or_ge i p.rows with g | g
    · rw [List.getElem?_append_left (by omega)] at hi ⊢
      exact p4 i blk hi
    · rw [List.getElem?_append_right (by omega)] at hi ⊢
      rw [hl2] at hi
      rw [hl1]
      exact q4 _ blk hi
  | struct t ih =>
    intro cs us x rest bs hr hc hb
    exact ih cs us x rest bs hr hc hb
theorem takeOne_sound {fresh:Bool} {S:Nat→Prop} (hm:Mem E w0 w μ bl) (hS:∀ k,E.D μ bl fresh k→S k) {t:Ty × Bool} {v:Bool × List A} {u:Value} {y:t.1.den × List (Option Nat) × List Nat} (h:takeOne fresh bl t v=some y) (hr:RepR E w μ bl v u)
    (hX:∀ k,E.X μ bl y.2.2 fresh k→S k):ResHold1 w S t y.1 u (y.2.1.map (·.bind μ))∧(∀ b,some b∈y.2.1→mine bl b) ∧
      ∀ (i:Nat) (blk:Blk),(oneRes fresh t y.1 0).2[i]? = some blk→HandsOn bl fresh blk (y.2.1[i]?:Option (Option Nat)):=by
  unfold takeOne at h
  have hag:=(cond_none h).1
  replace h:=(cond_none h).2
  have hag:v.1=t.1.isAgg:=by simpa using hag
  split at h
  case h_2=>cases h
  next x hx =>
  unfold RepR at hr
  unfold ResHold1
  cases ht:t.2 with
  | true =>
    rw [ht] at h
    simp only [cond_true] at h
    split at h
    case h_2=>cases h
    next bs hbs =>
    cases h
    have key:∀ us,RepAs E w μ bl v.2 us→OwnHolds w S t.1 x us (bs.map (·.bind μ))∧∀ (i:Nat) (blk:Blk),(t.1.ownRows fresh x)[i]? = some blk→HandsOn bl fresh blk (bs[i]?:Option (Option Nat)):=by
      intro us hus
      obtain ⟨c1,c2,u1,u2,b1,b2,e1,e2,e3,e4,p1,p2,p3,p4⟩:=own_take hm hS t.1 v.2 us x [] bs hus hx hbs
      have hc2:c2=[]:=by cases c2 with | nil=>rfl | cons _ _=>simp at e4
      subst hc2
      have hu2:u2=[]:=by cases u2 with | nil=>rfl | cons _ _=>exact p1.elim
      subst hu2
      have hb2:b2=[]:=by simp only [ownRefs] at p2;cases p2;rfl
      subst hb2
      rw [e2,e3,List.append_nil,List.append_nil]
      exact ⟨p3,p4⟩
    have hrows:(oneRes fresh t x 0).2=t.1.ownRows fresh x:=by unfold oneRes;rw [ht];rfl
    rw [← hag]
    cases hv:v.1 with
    | true=>rw [hv] at hr;obtain ⟨us,e,hus⟩:=hr;exact ⟨⟨us,e,(key us hus).1⟩,ownRefs_mine _ _ hbs,by rw [hrows];exact (key us hus).2⟩
    | false=>rw [hv] at hr;exact ⟨(key _ hr).1,ownRefs_mine _ _ hbs,by rw [hrows];exact (key _ hr).2⟩
  | false =>
    rw [ht] at h
    simp only [cond_false] at h
    cases h
    have key:∀ us,RepAs E w μ bl v.2 us→Holds w S t.1 x us:=by
      intro us hus
      have hv:=view_reps hm v.2 us hus (bs:=rowsOf v.2) fun c hc b g e=>rowsOf_mem _ c hc b g e
      obtain ⟨p1,p2,e1,e2,e3,_⟩:=ofCells_sound t.1 _ us x [] hv hx
      have:p2=[]:=by cases p2 with | nil=>rfl | cons _ _=>exact e3.elim
      subst this
      rw [List.append_nil] at e1
      subst e1
      exact e2.weaken fun k hk _=>hX k hk
    have hrows:(oneRes fresh t x 0).2=[]:=by unfold oneRes;rw [ht];rfl
    refine ⟨⟨rfl,?_⟩,fun b hb=>by simp at hb,fun i blk hi=>by rw [hrows] at hi;simp at hi⟩
    unfold ValHolds
    rw [← hag]
    cases hv:v.1 with
    | true=>rw [hv] at hr;obtain ⟨us,e,hus⟩:=hr;exact ⟨us,e,key us hus⟩
    | false=>rw [hv] at hr;exact key _ hr
theorem Env.X_more {fr:Bool} {bs bs':List Nat} (h:∀ b∈bs,b∈bs') {k:Nat} (hk:E.X μ bl bs fr k):E.X μ bl bs' fr k:=by
  refine ⟨hk.1,?_⟩
  rcases hk.2 with q | ⟨b,c,g,own,nf,t,l,q1,q2⟩
  · exact Or.inl q
  · exact Or.inr ⟨b,c,g,own,nf,t,l,h b q1,q2⟩
theorem takeRes_sound {fresh:Bool} {S:Nat→Prop} (hm:Mem E w0 w μ bl) (hS:∀ k,E.D μ bl fresh k→S k):∀ (ts:List (Ty × Bool)) (vs:List (Bool × List A)) (us:List Value) (y:denR ts × List (Option Nat) × List Nat),takeRes fresh bl ts vs=some y→All2 (RepR E w μ bl) vs us →
    (∀ k,E.X μ bl y.2.2 fresh k→S k)→ResHold w S ts y.1 us (y.2.1.map (·.bind μ))∧(∀ b,some b∈y.2.1→mine bl b) ∧
      ∀ (i:Nat) (blk:Blk),(giveRes fresh ts y.1 0).2[i]? = some blk→HandsOn bl fresh blk (y.2.1[i]?:Option (Option Nat))
  | [],[],[],y,h,_,_=>by simp only [takeRes] at h;cases h;exact ⟨rfl,fun b hb=>by simp at hb,fun i blk hi=>by simp [giveRes] at hi⟩
  | [],[],_ :: _,y,h,hr,_=>hr.elim
  | [],_ :: _,_,y,h,_,_=>by simp [takeRes] at h
  | [t],[],_,y,h,_,_=>by simp [takeRes] at h
  | [t],[v],[u],y,h,hr,hX=>takeOne_sound hm hS h hr.1 hX
  | [t],[v],[],y,h,hr,hX=>hr.elim
  | [t],[v],_ :: _ :: _,y,h,hr,hX=>hr.2.elim
  | [t],_ :: _ :: _,_,y,h,_,_=>by simp [takeRes] at h
  | t :: t' :: r,[],_,y,h,_,_=>by simp [takeRes] at h
  | t :: t' :: r,v :: vs,[],y,h,hr,_=>hr.elim
  | t :: t' :: r,v :: vs,u :: us,y,h,hr,hX=>by
    simp only [takeRes] at h
    split at h
    case h_2=>cases h
    next y1 y2 h1 h2 =>
    cases h
    obtain ⟨p1,p2,p3⟩:=takeOne_sound hm hS h1 hr.1 fun k hk=>hX k (Env.X_more (fun b hb=>List.mem_append_left _ hb) hk)
    obtain ⟨q1,q2,q3⟩:=takeRes_sound hm hS (t' :: r) vs us y2 h2 hr.2 fun k hk=>hX k (Env.X_more (fun b hb=>List.mem_append_right _ hb) hk)
    refine ⟨⟨_,_,by simp,p1,q1⟩,fun b hb=>?_,fun i blk hi=>?_⟩
    · rcases List.mem_append.mp hb with hb | hb
      · exact p2 b hb
      · exact q2 b hb
    · have hl:(oneRes fresh t y1.1 0).2.length=y1.2.1.length:=by have:=oneRes_length (fresh:=fresh) 0 p1;simpa using this
      rw [show (giveRes fresh (t :: t' :: r) (y1.1,y2.1) 0).2=(oneRes fresh t y1.1 0).2++(giveRes fresh (t' :: r) y2.1 (0+(oneRes fresh t y1.1 0).2.length)).2 from rfl,giveRes_rows _ _ _ _ 0] at hi
      rcases Nat.lt_or_ge i y1.2.1.length with g | g
      · rw [List.getElem?_append_left (by omega)] at hi ⊢
        exact p3 i blk hi
      · rw [List.getElem?_append_right (by omega)] at hi ⊢
        rw [hl] at hi
        exact q3 _ blk hi
theorem theRows_inj:∀ (bs:List (Option Nat)),apartAll (theRows bs)=true→∀ (i j b:Nat),bs[i]? = some (some b)→bs[j]? = some (some b)→i=j
  | [],_,i,j,b,h,_=>by simp at h
  | none :: bs,ha,i,j,b,hi,hj=>by
    cases i with
    | zero=>simp at hi
    | succ i =>
      cases j with
      | zero=>simp at hj
      | succ j =>
        simp only [List.getElem?_cons_succ] at hi hj
        rw [theRows_inj bs ha i j b hi hj]
  | some x :: bs,ha,i,j,b,hi,hj=>by
    simp only [theRows,apartAll,Bool.and_eq_true,Bool.not_eq_true'] at ha
    have hx:some x ∉ bs:=by
      have:=ha.1
      rw [List.contains_eq_mem,decide_eq_false_iff_not,theRows_mem] at this
      exact this
    cases i with
    | zero =>
      cases j with
      | zero=>rfl
      | succ j =>
        simp only [List.getElem?_cons_zero,Option.some.injEq] at hi
        subst hi
        simp only [List.getElem?_cons_succ] at hj
        exact absurd (List.mem_of_getElem? hj) hx
    | succ i =>
      cases j with
      | zero =>
        simp only [List.getElem?_cons_zero,Option.some.injEq] at hj
        subst hj
        simp only [List.getElem?_cons_succ] at hi
        exact absurd (List.mem_of_getElem? hi) hx
      | succ j =>
        simp only [List.getElem?_cons_succ] at hi hj
        rw [theRows_inj bs ha.2 i j b hi hj]
theorem flatten_nodup:∀ {L:List (List Nat)},(∀ F∈L,F.Nodup)→(∀ i j k,k∈L.getD i []→k∈L.getD j []→i=j)→L.flatten.Nodup
  | [],_,_=>List.nodup_nil
  | F :: L,h1,h2=>by
    rw [List.flatten_cons,List.nodup_append]
    refine ⟨h1 F (List.mem_cons_self ..),flatten_nodup (fun G hG=>h1 G (List.mem_cons_of_mem _ hG)) fun i j k hi hj=>?_,fun x hx y hy e=>?_⟩
    · have:=h2 (i+1) (j+1) k (by simpa using hi) (by simpa using hj)
      omega
    · subst e
      obtain ⟨G,hG,hy⟩:=List.mem_flatten.mp hy
      obtain ⟨i,hi⟩:=List.getElem?_of_mem hG
      have:=h2 0 (i+1) x (by simpa using hx) (by rw [List.getD_cons_succ,List.getD_eq_getElem?_getD,hi];exact hy)
      omega
theorem new_trees {rows:List Blk} {bs:List (Option Nat)} {fresh:Bool} (ht:Trees E w μ bl) (hh:∀ (i:Nat) (blk:Blk),rows[i]? = some blk→HandsOn bl fresh blk (bs[i]?:Option (Option Nat)))
    (inj:∀ (i j b:Nat),bs[i]? = some (some b)→bs[j]? = some (some b)→i=j) (hmine:∀ b,some b∈bs→mine bl b) (hm:Mem E w0 w μ bl) {B:Nat} (hB:∀ k,E.N k→¬ Own μ bl k→B≤k):∃ Fs,NewTrees B w rows (bs.map (·.bind μ)) Fs:=by
  classical
  obtain ⟨τ,hτ⟩:=ht
  refine ⟨bs.map fun o=>match o with | some b=>if Tree bl b then τ b else [] | none=>[],fun i g t l hi=>?_,fun k hk=>?_,?_⟩
  · obtain ⟨e,l',he,hmt⟩:=hh i _ hi
    cases he
    cases hb:bs[i]? with
    | none=>rw [hb] at hmt;exact hmt.elim
    | some o =>
      rw [hb] at hmt
      rw [List.getD_eq_getElem?_getD,List.getD_eq_getElem?_getD,List.getElem?_map,List.getElem?_map,hb]
      simp only [Option.map_some,Option.getD_some]
      cases o with
      | none =>
        have hmt:l=[]:=hmt
        exact Or.inl ⟨hmt,rfl⟩
      | some b =>
        obtain ⟨g',nf,q,hq⟩:=hmt
        simp only [Option.bind_some]
        by_cases hT:Tree bl b
        · rw [if_pos hT]
          obtain ⟨g2,t2,l2,q2⟩:=hT
          rw [q] at q2
          cases q2
          exact hτ.nest b _ _ _ q
        · rw [if_neg hT]
          rcases hq rfl with rfl | hf
          · exact absurd ⟨_,_,_,q⟩ hT
          · exact NestT.flat hf (hm.blocks b _ q)
  · obtain ⟨F,hF,hk⟩:=List.mem_flatten.mp hk
    obtain ⟨o,ho,rfl⟩:=List.mem_map.mp hF
    cases o with
    | none=>cases hk
    | some b =>
      simp only at hk
      by_cases hT:Tree bl b
      · rw [if_pos hT] at hk
        obtain ⟨h1,h2,h3⟩:=hτ.new b hT k hk
        refine ⟨hB k h1 h3,h2,fun c hc=>?_⟩
        obtain ⟨o',ho',e⟩:=List.mem_map.mp hc
        cases o' with
        | none=>cases e
        | some b'=>exact h3 ⟨b',c,e,hmine b' ho'⟩
      · rw [if_neg hT] at hk;cases hk
  · refine flatten_nodup (fun F hF=>?_) fun i j k hi hj=>?_
    · obtain ⟨o,ho,rfl⟩:=List.mem_map.mp hF
      cases o with
      | none=>exact List.nodup_nil
      | some b =>
        simp only
        by_cases hT:Tree bl b
        · rw [if_pos hT];exact hτ.nodup b hT
        · rw [if_neg hT];exact List.nodup_nil
    · have key:∀ i,k∈(bs.map fun o=>match o with | some b=>if Tree bl b then τ b else [] | none=>[]).getD i []→∃ b,bs[i]? = some (some b)∧Tree bl b∧k∈τ b:=by
        intro i hi
        rw [List.getD_eq_getElem?_getD,List.getElem?_map] at hi
        cases hb:bs[i]? with
        | none=>rw [hb] at hi;cases hi
        | some o =>
          rw [hb] at hi
          simp only [Option.map_some,Option.getD_some] at hi
          cases o with
          | none=>cases hi
          | some b =>
            simp only at hi
            by_cases hT:Tree bl b
            · rw [if_pos hT] at hi;exact ⟨b,rfl,hT,hi⟩
            · rw [if_neg hT] at hi;cases hi
      obtain ⟨b,h1,h2,h3⟩:=key i hi
      obtain ⟨b',h1',h2',h3'⟩:=key j hj
      by_cases e:b=b'
      · subst e;exact inj i j b h1 h1'
      · exact absurd h3' (hτ.apart b b' h2 h2' e k h3)
theorem giveArgs_sound {B:Nat} {S:Nat→Prop} {G:World→Prop}:∀ (ts:List Ty) (x:denL ts) (vs:List Value),ArgsHold w S ts x vs→All2 (RepV (Env.of B S G) w (fun _=>none) []) (giveArgs ts x) vs
  | [],_,[],_=>trivial
  | [],_,_ :: _,h=>h.elim
  | t :: ts,x,[],h=>h.elim
  | t :: ts,x,v :: vs,h=>by
    refine ⟨ValHolds.repV (E:=(Env.of B S G)) (fr:=false) ?_,giveArgs_sound ts x.2 vs h.2⟩
    have h1:=h.1
    have hS:∀ k,S k→Env.D (Env.of B S G) (fun _=>none) [] false k:=fun k hk=>⟨Or.inr ⟨rfl,hk⟩,fun ⟨b,c,e,_⟩=>by cases e⟩
    unfold ValHolds at h1 ⊢
    split at h1
    · obtain ⟨us,e,hh⟩:=h1;exact ⟨us,e,hh.weaken fun k hk _=>hS k hk⟩
    · exact h1.weaken fun k hk _=>hS k hk
theorem evFn_ok_gen {G:World→Prop} (give:(ts:List Ty)→denL ts→List V) (hgive:∀ (w:World) (S:Nat→Prop) (ts:List Ty) (x:denL ts) (vs:List Value),ArgsHold w S ts x vs→All2 (RepV (Env.of w.heap.size S G) w (fun _=>none) []) (give ts x) vs) (hcx:cx.good P G) {f:FuncId} {fn:Func} (hf:cx.body f=some fn) (s:CSpec) {c:Code} (hc:fn.body=some c) (K:Ex→St→Option (denR s.res)) (hK:∀ ex st' r,K ex st'=some r→(∀ i,ex ≠ .exit i)∧endFn cx fn s.res s.fresh st'=some r)
    (H:∀ x r,s.sem x=some r→∀ (E:Env) (w:World) (a:Act),E.G=G→Rel E w (fun _=>none) { tmps:=enter fn.ntmps (give s.params x),bl:=[],lock:=[] } a w→c.wp P (fun e a' w'=>∃ ex st' μ',exOf ex=e∧K ex st'=some r∧Rel E w μ' st' a' w') a w):s.ok P G f:=by
  obtain ⟨p1,p2,p3⟩:=hcx.ok.body f fn hf
  refine ⟨⟨fn,p1,p2,p3⟩,fun w hG S args x r hargs hsem=>?_⟩
  refine calls_of_wp p1 hc ?_
  have hX:=hgive w S _ _ _ hargs
  have hlen:=hX.length
  have hm0:Mem (Env.of w.heap.size S G) w w (fun _=>none) []:=⟨fun w' hb=>hcx.goes w w' hG (Env.Apart.of hb),Env.Apart.refl _ w,Nat.le_refl _,fun b blk hb=>by simp at hb,fun b b' k c c' h1=>by cases h1⟩
  have hR:Rel (Env.of w.heap.size S G) w (fun _=>none) { tmps:=enter fn.ntmps (give s.params x),bl:=[],lock:=[] } { tmps:=args.toArray++Array.replicate (fn.ntmps-args.toArray.size) undef,defers:=[] } w:=by
    refine ⟨hm0,?_,rfl,Trees.nil⟩
    simp only [enter,Array.toList_append,Array.toList_replicate,List.size_toArray]
    rw [hlen]
    refine hX.append ?_
    generalize fn.ntmps-args.length=m
    induction m with
    | zero=>trivial
    | succ m ih=>exact ⟨RepV.undef,ih⟩
  refine wp_mono (H x r hsem (Env.of w.heap.size S G) w _ rfl hR) ?_
  rintro e a' w' ⟨ex,st',μ',rfl,hk,hR'⟩
  have fin:endFn cx fn s.res s.fresh st'=some r→a'.defers=[]∧∃ v,(results fn a'.tmps).run P w' = .ok v w'∧s.post w S r v w':=by
    intro hk
    unfold endFn at hk
    split at hk
    case h_2=>cases hk
    next xs hxs =>
    split at hk
    case h_2=>cases hk
    next y hy =>
    have hap:=(cond_none hk).1
    replace hk:=(cond_none hk).2
    cases hk
    rw [Bool.and_eq_true] at hap
    obtain ⟨us,q1,q2⟩:=results_sound hcx.ok hR' hxs
    have hm:=hR'.mem
    obtain ⟨_,mineAll,handsAll⟩:=takeRes_sound (S:=fun _=>True) hm (fun _ _=>trivial) s.res xs us y hy q2 (fun _ _=>trivial)
    have inms:∀ k c,some (k,c)∈y.2.1.map (·.bind μ')→∃ b,some b∈y.2.1∧μ' b=some (k,c):=fun k c hkc=>by
      obtain ⟨b,hb,e⟩:=List.mem_map.mp hkc
      cases b with
      | none=>cases e
      | some b=>exact ⟨b,hb,e⟩
    have hSD:∀ k,Env.D (Env.of w.heap.size S G) μ' st'.bl s.fresh k→s.S w.heap.size S (y.2.1.map (·.bind μ')) k:=by
      rintro k ⟨h1,h2⟩
      refine ⟨h1,fun c hc=>?_⟩
      obtain ⟨b,hb,e⟩:=inms k c hc
      exact h2 ⟨b,c,e,mineAll b hb⟩
    have hSX:∀ k,Env.X (Env.of w.heap.size S G) μ' st'.bl y.2.2 s.fresh k→s.S w.heap.size S (y.2.1.map (·.bind μ')) k:=by
      rintro k ⟨h1,h2⟩
      refine ⟨h1,fun c hc=>?_⟩
      obtain ⟨b,hb,e⟩:=inms k c hc
      rcases h2 with h2 | ⟨b2,c2,g2,own,nf,t,l,hb2,e2,hbl2⟩
      · exact h2 ⟨b,c,e,mineAll b hb⟩
      · have:=hm.apart b b2 k c c2 e e2 (mine_alive (mineAll b hb)) (by unfold alive;rw [hbl2];trivial)
        subst this
        have:=List.all_eq_true.mp hap.2 b (theRows_mem.mpr hb)
        simp only [Bool.not_eq_true',List.contains_eq_mem,decide_eq_false_iff_not] at this
        exact this hb2
    have inj:∀ (i j b:Nat),y.2.1[i]? = some (some b)→y.2.1[j]? = some (some b)→i=j:=theRows_inj _ hap.1
    refine ⟨hR'.defers,packed us,q1,Env.Apart.of hm.below,us,y.2.1.map (·.bind μ'),rfl,⟨fun k c hc=>?_,fun i j k c c' hi hj=>?_⟩,(takeRes_sound hm hSD s.res xs us y hy q2 hSX).1,new_trees hR'.tree handsAll inj mineAll hm (fun _ h _=>h)⟩
    · obtain ⟨b,hb,e⟩:=inms k c hc
      have hmb:=mineAll b hb
      unfold mine at hmb
      split at hmb
      · next cs hbl =>
        obtain ⟨k',c',vals,ty,fz,h1,h2,_⟩:=hm.blocks b _ hbl
        rw [e] at h1;cases h1;exact h2
      · next g own nf t l hbl =>
        rcases hm.blocks b _ hbl with ⟨h1,_⟩ | ⟨k',c',vals,ty,fz,h1,h2,_⟩
        · rw [e] at h1;cases h1
        · rw [e] at h1;cases h1;exact h2
      · exact hmb.elim
    · rw [List.getElem?_map] at hi hj
      obtain ⟨b,hb,eb⟩:=Option.map_eq_some_iff.mp hi
      obtain ⟨b',hb',eb'⟩:=Option.map_eq_some_iff.mp hj
      cases b with
      | none=>cases eb
      | some b =>
      cases b' with
      | none=>cases eb'
      | some b' =>
      have:=hm.apart b b' k c c' eb eb' (mine_alive (mineAll b (List.mem_of_getElem? hb))) (mine_alive (mineAll b' (List.mem_of_getElem? hb')))
      subst this
      exact inj i j b hb hb'
  obtain ⟨hne,hend⟩:=hK _ _ _ hk
  cases ex with
  | exit i=>exact absurd rfl (hne i)
  | normal =>
    obtain ⟨h1,v,h2,h3⟩:=fin hend
    exact ⟨h1,v,h2,h3⟩
  | ret =>
    obtain ⟨h1,v,h2,h3⟩:=fin hend
    exact ⟨h1,v,h2,h3⟩
theorem evFn_ok_of {G:World→Prop} (hcx:cx.good P G) {f:FuncId} {fn:Func} (hf:cx.body f=some fn) (s:CSpec) {c:Code} (hc:fn.body=some c) (K:Ex→St→Option (denR s.res)) (hK:∀ ex st' r,K ex st'=some r→(∀ i,ex ≠ .exit i)∧endFn cx fn s.res s.fresh st'=some r)
    (H:∀ x r,s.sem x=some r→∀ (E:Env) (w:World) (a:Act),E.G=G→Rel E w (fun _=>none) { tmps:=enter fn.ntmps (giveArgs s.params x),bl:=[],lock:=[] } a w→c.wp P (fun e a' w'=>∃ ex st' μ',exOf ex=e∧K ex st'=some r∧Rel E w μ' st' a' w') a w):s.ok P G f :=
  evFn_ok_gen giveArgs (fun w S ts x vs h=>giveArgs_sound ts x vs h) hcx hf s hc K hK H
theorem evFn_ok {G:World→Prop} (hcx:cx.good P G) (d:Nat) {f:FuncId} {fn:Func} (hf:cx.body f=some fn) (s:CSpec) (hs:∀ x r,s.sem x=some r→evFn cx d fn s.params s.res s.fresh x=some r):s.ok P G f:=by
  cases hc:fn.body with
  | none =>
    obtain ⟨p1,p2,p3⟩:=hcx.ok.body f fn hf
    rw [hc] at p3;cases p3
  | some c =>
    refine evFn_ok_of hcx hf s hc (fun e st'=>match e with
      | .exit _=>none
      | _=>endFn cx fn s.res s.fresh st') (fun ex st' r h=>?_) fun x r hsem E w a hG hR=>?_
    · cases ex with
      | exit i=>cases h
      | normal=>exact ⟨fun i e=>(by cases e),h⟩
      | ret=>exact ⟨fun i e=>(by cases e),h⟩
    · subst hG
      have h:=hs x r hsem
      unfold evFn at h
      rw [hc] at h
      refine wp_mono (evCode_sound hcx (evInl_sound hcx d) c w _ _ r _ _ w hR h) ?_
      rintro e a' w' ⟨ex,st',μ',rfl,hk,hR',_,_⟩
      refine ⟨ex,st',μ',rfl,?_,hR'⟩
      cases ex <;> exact hk
end
end Go.Proofs.YtnohkcklakipoaaGreatDoor.Ev
set_option linter.unusedVariables false
set_option linter.unusedSimpArgs false
set_option maxRecDepth 100000
namespace Go.Proofs.YtnohkcklakipoaaGreatDoor.Ev
open Go Go.RowKit Go.Proofs
section
variable {P:Program} {cx:Cx} {E:Env} {w0 w:World} {μ:Lie} {st:St} {a:Act}
def evPush (b:Nat) (X:V) (st:St):Option St :=
  match freezeAll st (rowsOf X.cells) with
  | some st1=>match st1.bl[b]? with
    | some (.arr g true true t l)=>bif !st.lock.contains b&&moves st.bl X.cells then (match t.ofV false st.bl X with
      | some y=>some { st1 with bl:=st1.bl.set b (.arr (g+1) true true t (l++[y])) }
      | none=>none) else none
    | _=>none
  | none=>none
theorem Lie.put_self {μ:Lie} {b:Nat} {m:Option (Nat × Nat)} (h:μ b=m):μ.put b m=μ:=by
  funext c
  unfold Lie.put
  split
  · next e=>rw [e,h]
  · rfl
theorem push_sound {b:Nat} {X:V} {v:Value} {st':St} (hR:Rel E w0 μ st a w) (hX:RepV E w μ st.bl X v) (h:evPush b X st=some st') {k cap:Nat} (hb:μ b=some (k,cap)) :
    ∃ (g:Nat) (t:Ty) (l:List t.den) (y:t.den) (vals:Array Value) (ty:TypeId) (fz:Nat × Nat),st.bl[b]? = some (.arr g true true t l)∧t.ofV false st.bl X=some y∧st'.bl[b]? = some (.arr (g+1) true true t (l++[y]))∧st'.tmps=st.tmps∧st'.lock=st.lock∧w.heap[k]? = some (.cells vals ty fz)∧unfrozen vals fz∧vals.size=cap*t.size∧v.cells.toList.length=t.size∧(∀ u∈v.cells.toList,u.oneCell'=true) ∧
      (l.length<cap→Rel E w0 μ st' a (rowSet w k (writeAt vals.toList (l.length*t.size) v.cells.toList) ty fz)):=by
  unfold evPush at h
  split at h
  case h_2=>cases h
  next st1 hf =>
  split at h
  case h_2=>cases h
  next g t l hb1 =>
  have hg:=(cond_none h).1
  replace h:=(cond_none h).2
  rw [Bool.and_eq_true] at hg
  obtain ⟨hlock,hmv⟩:=hg
  split at h
  case h_2=>cases h
  next y hy =>
  cases h
  obtain ⟨r1,t1,g1,o1,f1',k1⟩:=freezeAll_sound _ hR hf
  obtain ⟨hbst,hnb⟩:=tree_backs _ hf hb1
  have hmv0:=hmv
  unfold moves at hmv
  split at hmv
  case h_2=>cases hmv
  next bs hbs =>
  have hrows:=movable_rows hbs
  have hcs:=(ofV_fresh (need:=true) hR.mem hX (fun _ h=>h) (fun c hc fr u l e _=>by have:=newAlone_get _ (moves_alone hmv0) c hc;rw [e] at this;exact this) hy).cells
  have hvl:v.cells.toList.length=t.size:=hcs.length
  obtain ⟨τ,hτ⟩:=hR.tree
  have hτ':=hτ.freezeAll _ hf
  have htree:=ofV_tree hR.mem hτ hX hy hbs
  have hmine1:mine st1.bl b:=by unfold mine;rw [hb1]
  rcases r1.mem.blocks b _ hb1 with ⟨h1,_⟩ | ⟨k',cap',vals,ty,fz,h1,h2,h3,h4,h5,h6,h7⟩
  · rw [hb] at h1;cases h1
  rw [hb] at h1
  cases h1
  have hself:(st1.bl.set b (.arr (g+1) true true t (l++[y])))[b]? = some (.arr (g+1) true true t (l++[y])):=getElem?_set_self hb1
  refine ⟨g,t,l,y,vals,ty,fz,hbst,hy,hself,t1,g1.lock,h3,h4,h6,hvl,hcs.one,fun hroom=>?_⟩
  have hle:l.length*t.size≤vals.toList.length:=by
    have:=Nat.mul_le_mul_right t.size h5
    rw [← h6] at this;simpa using this
  have hfit:l.length*t.size+v.cells.toList.length≤vals.size:=by
    rw [hvl,h6]
    have:(l.length+1)*t.size≤cap*t.size:=Nat.mul_le_mul_right _ hroom
    rw [Nat.add_mul] at this;omega
  have hkl:=heap_lt h3
  have htl:(vals.toList.take (l.length*t.size)).length=l.length*t.size:=by rw [List.length_take];omega
  have hcells:∀ j,j<(vals.toList.take (l.length*t.size)++v.cells.toList).length→(writeAt vals.toList (l.length*t.size) v.cells.toList)[j]? = (vals.toList.take (l.length*t.size)++v.cells.toList)[j]?:=by
    intro j hj
    rw [List.length_append,htl] at hj
    by_cases q:j<l.length*t.size
    · rw [writeAt_get_out _ _ _ _ (Or.inl q),List.getElem?_append_left (by omega),List.getElem?_take_of_lt q]
    · obtain ⟨d,rfl⟩:∃ d,j=l.length*t.size+d:=⟨j-l.length*t.size,by omega⟩
      rw [writeAt_get_in _ _ _ _ (by simpa using hfit) (by omega),List.getElem?_append_right (by omega),htl,Nat.add_sub_cancel_left]
  have hone:Chunks w (E.D μ st1.bl true) t [y] v.cells.toList:=by
    refine ⟨by simpa using hvl,fun j hj=>?_⟩
    have:j=0:=by simp at hj;exact hj
    subst this
    simp only [Nat.zero_mul,List.drop_zero,List.getElem_cons_zero]
    rw [List.take_of_length_le (by omega)]
    exact hcs.weaken fun k hk _=>Env.X_D hk o1 f1'
  have hchunk:=(Elems.chunks h7 hle).append hone
  have hw:∀ j,j<w.heap.size→(∀ c,μ b≠some (j,c))→(rowSet w k (writeAt vals.toList (l.length*t.size) v.cells.toList) ty fz).heap[j]? = w.heap[j]?:=fun j hj hne=>rowSet_other fun q=>hne cap (by rw [q];exact hb)
  have hme:=r1.mem.turn (w':=rowSet w k (writeAt vals.toList (l.length*t.size) v.cells.toList) ty fz) (blk':=.arr (g+1) true true t (l++[y])) hb1 hmine1 (some (k,cap)) rfl rfl rfl (by rw [rowSet_size];exact Nat.le_refl _) hw (Or.inl hb.symm) (fun cs q=>by cases q)
    (fun g2 own nf2 u l2 e=>by cases e;exact ⟨g,true,true,l,rfl,Nat.le_succ _,fun q=>by omega⟩) fun ev=>?_
  · have htr:Trees E (rowSet w k (writeAt vals.toList (l.length*t.size) v.cells.toList) ty fz) (μ.put b (some (k,cap))) (st1.bl.set b (.arr (g+1) true true t (l++[y]))):=by
      have hbt:∀ d∈bs,Tree st.bl d:=fun d hd=>movable_tree hbs d hd
      have hnd:=Fof_nodup hR.mem hτ (apartAll_nodup hmv) hbt
      obtain ⟨Fs,f1,f2⟩:=row_trees hτ' hb1 hb h3
      have p2:TreesOf w t [y] v.cells.toList [bs.flatMap (Fof μ τ)]:=by
        refine ⟨rfl,fun j hj=>?_⟩
        have:j=0:=by simp at hj;exact hj
        subst this
        simp only [Nat.zero_mul,List.drop_zero,List.getElem_cons_zero]
        rw [List.take_of_length_le (by omega)]
        exact htree
      have hmemF:∀ j∈bs.flatMap (Fof μ τ),E.N j∧j<w.heap.size∧¬ Own μ st1.bl j:=by
        intro j hj
        obtain ⟨d,hd,hj⟩:=List.mem_flatMap.mp hj
        obtain ⟨q1,q2,q3⟩:=Fof_mem hR.mem hτ (hbt d hd) hj
        refine ⟨q1,q2,fun ho=>?_⟩
        rcases q3 with ⟨c2,hc2⟩ | hc2
        · obtain ⟨g3,t3,l3,q⟩:=hbt d hd
          exact f1' d (hrows ▸ hd) j c2 hc2 ⟨_,_,_,_,_,q⟩ ho
        · exact (hτ.new d (hbt d hd) j hc2).2.2 (o1 j ho)
      have hmemT:∀ j∈bs.flatMap (Fof μ τ),∀ c,Tree st1.bl c→j ∉ τ c:=by
        intro j hj c hc hjc
        obtain ⟨d,hd,hj⟩:=List.mem_flatMap.mp hj
        obtain ⟨g3,t3,l3,q⟩:=hc
        obtain ⟨q1,q2⟩:=tree_backs _ hf q
        have hcb:Tree st.bl c:=⟨_,_,_,q1⟩
        have hne:d≠c:=fun e=>q2 (e ▸ hrows ▸ hd)
        rcases (Fof_mem hR.mem hτ (hbt d hd) hj).2.2 with ⟨c2,hc2⟩ | hc2
        · exact (hτ.new c hcb j hjc).2.2 ⟨d,c2,hc2,tree_mine (hbt d hd)⟩
        · exact hτ.apart d c (hbt d hd) hcb hne j hc2 hjc
      have hbtree:Tree st1.bl b:=⟨g,t,l,hb1⟩
      have hall:=TreesOf.append htl f2 p2
      have hflat:(Fs++[bs.flatMap (Fof μ τ)]).flatten=τ b++bs.flatMap (Fof μ τ):=by rw [List.flatten_append,f1];simp
      have hnotown:∀ j∈(Fs++[bs.flatMap (Fof μ τ)]).flatten,E.N j∧j<w.heap.size∧¬ Own μ st1.bl j:=by
        intro j hj
        rw [hflat] at hj
        rcases List.mem_append.mp hj with hj | hj
        · exact hτ'.new b hbtree j hj
        · exact hmemF j hj
      refine ⟨_,hτ'.turn r1.mem hmine1 hw hme.2 (F:=(Fs++[bs.flatMap (Fof μ τ)]).flatten) (fun g' t' l' e=>?_) (fun j hj=>?_) ?_ (fun d hd hdt j hj hjd=>?_)⟩
      · cases e
        exact hall.nest (by rw [List.length_append,List.length_append,Nat.add_mul,htl,hvl];simp) (rowSet_same hkl) (fun j hj=>by simp only [List.toList_toArray];exact hcells j hj) fun j hj=>by
          obtain ⟨_,q2,q3⟩:=hnotown j hj
          exact hme.2.heap j q2 q3
      · obtain ⟨q1,q2,q3⟩:=hnotown j hj
        exact ⟨q1,by rw [rowSet_size];exact q2,fun ho=>q3 (hme.2.own j ho q2)⟩
      · rw [hflat]
        exact List.nodup_append.mpr ⟨hτ'.nodup b hbtree,hnd,fun j hj j' hj' e=>hmemT j' hj' b hbtree (e ▸ hj)⟩
      · rw [hflat] at hj
        rcases List.mem_append.mp hj with hj | hj
        · exact hτ'.apart b d hbtree hdt (Ne.symm hd) j hj hjd
        · exact hmemT j hj d hdt hjd
    have:=r1.next hme.1 hme.2 htr
    rw [Lie.put_self hb] at this
    exact this
  · refine Or.inr ⟨k,cap,_,ty,fz,Lie.put_same _ _ _,h2,rowSet_same hkl,(fun j hj hh=>h4 j (by simpa [writeAt_length] using hj) hh),by simp;omega,by simpa [writeAt_length] using h6,?_⟩
    refine (hchunk.elems fun j hj=>?_).mono (ev.D (E:=E))
    simp only [List.toList_toArray]
    exact hcells j hj
end
end Go.Proofs.YtnohkcklakipoaaGreatDoor.Ev
set_option linter.unusedVariables false
set_option linter.unusedSimpArgs false
set_option maxRecDepth 100000
namespace Go.Proofs.YtnohkcklakipoaaGreatDoor.Ev
open Go Go.RowKit Go.Proofs
section
variable {P:Program} {cx:Cx} {E:Env} {w0 w:World} {μ:Lie} {st:St} {a:Act}
theorem fill_ops (hcx:cx.ok P) (hR:Rel E w0 μ st a w) {ops:Array Oper} {i:Nat} {o4 o5:Oper} (h4:ops.toList[i]? = some o4) (h5:ops.toList[i+1]? = some o5)
    {tS tE:TypeId} {dx di da dv:Tmp} (ho4:o4.op = .indexAddr tS (.tmp dx) (.tmp di)) (hd4:o4.dst=some da) (hg4:o4.guard=none) (ho5:o5.op = .store tE (.tmp da) (.tmp dv)) (hd5:o5.dst=none) (hg5:o5.guard=none) (hne:da≠dv) (hlt:da<st.tmps.length)
    {b k cap n:Nat} {kd:IntKind} {j:Int} (hμ:μ b=some (k,cap)) (hhd:a.eval (.tmp dx) = .slice (some ⟨k,0,none⟩) n cap) (hcap:n≤cap) (hi:st.get (.tmp di) = .at (.int kd j))
    {st':St} (hp:evPush b (st.get (.tmp dv)) st=some st') {g:Nat} {t:Ty} {l:List t.den} (hbl:st.bl[b]? = some (.arr g true true t l)) (hj:j=(l.length:Int)) (hjn:l.length<n) (hs:sliceTy cx tS t=true) (ht:cx.ty tE=some t)
    {Q:Exit→Act→World→Prop} (hQ:∀ a' w',Rel E w0 μ (st'.put (some da) V.undef) a' w'→(∀ u,u≠da→a'.tmps[u]? = a.tmps[u]?)→Q .normal a' w'):wpOps P ops Q [i,i+1] a w:=by
  obtain ⟨g2,t2,l2,y,vals,ty,fz,q1,q2,q3,q4,q5,q6,q7,q8,q9,q10,q11⟩:=push_sound hR (hR.get (.tmp dv)) hp hμ
  rw [hbl] at q1
  cases q1
  obtain ⟨e,he,hte⟩:=sliceTy_sound hcx hs
  have ei:=int_of hR hi
  have h4':ops[i]? = some o4:=by rw [← Array.getElem?_toList];exact h4
  have h5':ops[i+1]? = some o5:=by rw [← Array.getElem?_toList];exact h5
  have hw4:Region.wanted o4 (yielded ops a.tmps)=true:=by unfold Region.wanted;rw [hg4]
  have hrun4:(execOp a.eval o4).run P w = .ok (.value (.pointer (some ⟨k,l.length*t.size,none⟩))) w:=by
    unfold execOp
    simp only [ho4]
    have hb0:(0:Int)≤j:=by omega
    have hb1:j<(n:Int):=by omega
    have hjt:j.toNat=l.length:=by omega
    simp [Instr.indexAt,ei,hhd,asIntOf,run_underlying he,hb0,hb1,run_sizeOf hte,add_none,hjt]
  have hsz:st.tmps.length=a.tmps.size:=by have:=hR.slots.length;simpa using this
  have hlt':da<a.tmps.size:=hsz ▸ hlt
  unfold wpOps
  simp only [h4']
  rw [if_pos hw4]
  refine Or.inl ?_
  unfold Oper.wp
  rw [hrun4]
  show wpOps P ops Q [i+1] (a.put o4.dst (.pointer (some ⟨k,l.length*t.size,none⟩))) w
  rw [hd4]
  have ea:(a.put (some da) (.pointer (some ⟨k,l.length*t.size,none⟩))).eval (.tmp da) = .pointer (some ⟨k,l.length*t.size,none⟩):=by
    show (a.tmps.setIfInBounds da _).getD da undef=_
    rw [Array.getD_eq_getD_getElem?,Array.getElem?_setIfInBounds_self,if_pos hlt'];rfl
  have ev:(a.put (some da) (.pointer (some ⟨k,l.length*t.size,none⟩))).eval (.tmp dv)=a.eval (.tmp dv):=by
    show (a.tmps.setIfInBounds da _).getD dv undef=a.tmps.getD dv undef
    rw [Array.getD_eq_getD_getElem?,Array.getD_eq_getD_getElem?,Array.getElem?_setIfInBounds_ne hne]
  have hw5:∀ y,Region.wanted o5 y=true:=fun y=>by unfold Region.wanted;rw [hg5]
  have hfit:l.length*t.size+(a.eval (.tmp dv)).cells.toList.length≤vals.size:=by
    rw [q9,q8]
    have:(l.length+1)*t.size≤cap*t.size:=Nat.mul_le_mul_right _ (by omega)
    rw [Nat.add_mul] at this;omega
  have hst:=run_storeCells (P:=P) (off:=l.length*t.size) (a.eval (.tmp dv)).cells.toList 0 w vals q6 q7 q10 (by omega)
  rw [Nat.add_zero] at hst
  have hvs:(a.eval (.tmp dv)).cells.size=t.size:=by rw [← q9,Array.length_toList]
  have hrun5:(execOp (a.put (some da) (.pointer (some ⟨k,l.length*t.size,none⟩))).eval o5).run P w = .ok .skip (rowSet w k (writeAt vals.toList (l.length*t.size) (a.eval (.tmp dv)).cells.toList) ty fz):=by
    unfold execOp
    simp only [ho5]
    simp [Instr.storeAt,ea,ev,Instr.sureAddr,storeVar,run_sizeOf (hcx.ty _ _ ht),hvs,hst]
  unfold wpOps
  simp only [h5']
  rw [if_pos (hw5 _)]
  refine Or.inl ?_
  unfold Oper.wp
  rw [hrun5]
  show wpOps P ops Q [] ((a.put (some da) (.pointer (some ⟨k,l.length*t.size,none⟩))).put o5.dst undef) _
  rw [hd5]
  unfold wpOps
  refine hQ _ _ ((q11 (by omega)).put (some da) RepV.undef) fun u hu=>?_
  show (a.tmps.setIfInBounds da _)[u]? = _
  rw [Array.getElem?_setIfInBounds_ne (Ne.symm hu)]
end
end Go.Proofs.YtnohkcklakipoaaGreatDoor.Ev
set_option linter.unusedVariables false
set_option linter.unusedSimpArgs false
set_option maxRecDepth 100000
namespace Go.Proofs.YtnohkcklakipoaaGreatDoor.Ev
open Go Go.RowKit Go.Proofs
variable {ρ:Type}
section
variable {P:Program} {cx:Cx} {E:Env} {w0 w:World} {μ:Lie} {st:St} {a:Act}
def canonV:V→V
  | .at (.int k n)=>.at (.int k n)
  | .at (.bool b)=>.at (.bool b)
  | .at (.str s)=>.at (.str s)
  | .at (.sl fr t l)=>.at (.sl fr t l)
  | .at (.nil t)=>.at (.nil t)
  | .at (.old t l)=>.at (.old t l)
  | _=>V.undef
theorem canonV_rep {μ':Lie} {bl bl':List Blk} (ho:∀ k,Own μ' bl' k→Own μ bl k) {v:V} {u:Value} (h:RepV E w μ bl v u):RepV E w μ' bl' (canonV v) u:=by
  cases v with
  | «at» x =>
    cases x with
    | int k n=>exact h
    | bool b=>exact h
    | str s=>exact h
    | nil t=>exact h
    | sl fr t l=>exact Holds.weaken (S:=E.D μ bl fr) (fun k hk _=>⟨hk.1,fun q=>hk.2 (ho k q)⟩) h
    | old t l=>exact Holds.weaken (S:=E.O μ bl) (fun k hk _=>⟨hk.1,fun q=>hk.2 (ho k q)⟩) h
    | undef=>exact RepV.undef
    | err b=>exact RepV.undef
    | os b g=>exact RepV.undef
    | ptr b off=>exact RepV.undef
    | ep b g i off=>exact RepV.undef
    | pp fr t x off=>exact RepV.undef
    | fn f caps=>exact RepV.undef
  | agg cs=>exact RepV.undef
  | tup xs=>exact RepV.undef
theorem canonV_idem (v:V):canonV (canonV v)=canonV v:=by
  cases v with
  | «at» x=>cases x <;> rfl
  | agg cs=>rfl
  | tup xs=>rfl
theorem refit {b:Nat} {g:Nat} {nf:Bool} {t:Ty} {l:List t.den} (hR:Rel E w0 μ st a w) (hb:st.bl[b]? = some (.arr g true nf t l)) {ys:List t.den} (hy:(nf=true∧ys=l)∨ys=[]) {tm:List V} (hlen:tm.length=st.tmps.length)
    (htm:∀ (j:Nat) (v:V),tm[j]? = some v→v=V.undef∨∃ v0,st.tmps[j]? = some v0∧v=canonV v0):Rel E w0 (fun _=>μ b) ⟨tm,[.arr 0 true true t ys],[]⟩ a w:=by
  have hone:∀ (b:Nat) blk,([Blk.arr 0 true true t ys]:List Blk)[b]? = some blk→b=0∧blk = .arr 0 true true t ys:=by
    intro b blk h
    cases b with
    | zero=>cases h;exact ⟨rfl,rfl⟩
    | succ b=>cases h
  have hmine0:mine st.bl b:=by unfold mine;rw [hb]
  have ho:∀ k,Own (fun _=>μ b) [.arr 0 true true t ys] k→Own μ st.bl k:=by
    rintro k ⟨b',c,h1,h2⟩
    exact ⟨b,c,h1,hmine0⟩
  have hal:∀ b,alive [.arr 0 true true t ys] b→b=0:=fun b h=>by
    have:=alive_lt h
    simp at this;exact this
  refine ⟨⟨hR.mem.start,hR.mem.below,hR.mem.big,fun b' blk h=>?_,fun b b' k c c' _ _ h1 h2=>(hal b h1).trans (hal b' h2).symm⟩,?_,hR.defers,?_⟩
  · obtain ⟨rfl,rfl⟩:=hone b' blk h
    rcases hR.mem.blocks b _ hb with ⟨h1,h2⟩ | ⟨k,cap,vals,ty,fz,h1,h2,h3,h4,h5,h6,h7⟩
    · refine Or.inl ⟨h1,?_⟩
      rcases hy with ⟨_,e⟩ | e
      · rw [e,h2]
      · exact e
    · refine Or.inr ⟨k,cap,vals,ty,fz,h1,h2,h3,h4,?_,h6,?_⟩
      · rcases hy with ⟨_,e⟩ | e
        · rw [e];exact h5
        · rw [e];exact Nat.zero_le _
      · rcases hy with ⟨e1,e⟩ | e
        · subst e
          rw [e1] at h7
          exact fun i hi=>(h7 i hi).weaken fun k hk _=>⟨hk.1,fun q=>hk.2 (ho k q)⟩
        · subst e
          exact fun i hi=>absurd hi (Nat.not_lt_zero _)
  · refine All2.of_get (by rw [hlen];exact hR.slots.length) fun j v u hv hu=>?_
    rcases htm j v hv with e | ⟨v0,h1,e⟩
    · rw [e];exact RepV.undef
    · rw [e]
      obtain ⟨u',h2,h3⟩:=hR.slots.get h1
      rw [hu] at h2;cases h2
      exact canonV_rep ho h3
  · obtain ⟨τ,hτ⟩:=hR.tree
    have htree:∀ b,Tree [.arr 0 true true t ys] b→b=0:=fun b hb=>hal b (mine_alive (tree_mine hb))
    rcases hy with ⟨e1,e⟩ | e
    · subst e
      subst e1
      have ht0:Tree st.bl b:=⟨_,_,_,hb⟩
      refine ⟨fun _=>τ b,fun b g' t' l' h=>?_,fun b hb' k hk=>?_,fun b hb'=>?_,fun b b' h1 h2 hne=>absurd ((htree b h1).trans (htree b' h2).symm) hne⟩
      · obtain ⟨rfl,e⟩:=hone _ _ h
        cases e
        exact hτ.nest _ _ _ _ hb
      · obtain ⟨q1,q2,q3⟩:=hτ.new _ ht0 k hk
        exact ⟨q1,q2,fun q=>q3 (ho k q)⟩
      · exact hτ.nodup _ ht0
    · subst e
      refine ⟨fun _=>[],fun b g' t' l' h=>?_,fun b hb' k hk=>(by cases hk),fun b hb'=>List.nodup_nil,fun b b' _ _ _ k hk=>(by cases hk)⟩
      obtain ⟨rfl,e⟩:=hone _ _ h
      cases e
      exact Or.inl ⟨rfl,rfl⟩
def onN (f:St→Option ρ):Ex→St→Option ρ
  | .normal,st=>f st
  | _,_=>none
def onC (f g:St→Option ρ) (e0:Nat):Ex→St→Option ρ
  | .normal,st=>f st
  | .exit i,st=>bif i == e0 then g st else none
  | .ret,_=>none
theorem run_n (hcx:cx.good P E.G) {inl:Inl ρ} (hinl:InlOk P E inl) {c:Code} {f:St→Option ρ} {r:ρ} (hR:Rel E w0 μ st a w) (h:evCode cx inl [] c st (onN f)=some r) :
    c.wp P (fun e a' w'=>e = .normal∧∃ st' μ',f st'=some r∧Rel E w0 μ' st' a' w'∧Keeps (Code.writes c) st a st' a'∧Goes w μ st w' μ' st') a w:=by
  refine wp_mono (evCode_sound hcx hinl c w0 st _ r μ a w hR h) ?_
  rintro e a' w' ⟨ex,st',μ',rfl,hk,hR',kp,g⟩
  cases ex with
  | normal=>exact ⟨rfl,st',μ',hk,hR',kp,g⟩
  | exit i=>cases hk
  | ret=>cases hk
theorem run_c (hcx:cx.good P E.G) {inl:Inl ρ} (hinl:InlOk P E inl) {c:Code} {f g:St→Option ρ} {e0:Nat} {r:ρ} (hR:Rel E w0 μ st a w) (h:evCode cx inl [] c st (onC f g e0)=some r) :
    c.wp P (fun e a' w'=>∃ st' μ',((e = .normal∧f st'=some r)∨(e = .exit e0∧g st'=some r))∧Rel E w0 μ' st' a' w'∧Keeps (Code.writes c) st a st' a'∧Goes w μ st w' μ' st') a w:=by
  refine wp_mono (evCode_sound hcx hinl c w0 st _ r μ a w hR h) ?_
  rintro e a' w' ⟨ex,st',μ',rfl,hk,hR',kp,g⟩
  cases ex with
  | normal=>exact ⟨st',μ',Or.inl ⟨rfl,hk⟩,hR',kp,g⟩
  | exit i =>
    unfold onC at hk
    have:=(cond_none hk).1
    have:i=e0:=by simpa using this
    subst this
    exact ⟨st',μ',Or.inr ⟨rfl,(cond_none hk).2⟩,hR',kp,g⟩
  | ret=>cases hk
end
end Go.Proofs.YtnohkcklakipoaaGreatDoor.Ev
set_option linter.unusedVariables false
set_option linter.unusedSimpArgs false
set_option maxRecDepth 100000
namespace Go.Proofs.YtnohkcklakipoaaGreatDoor.Ev
open Go Go.RowKit Go.Proofs
variable {ρ:Type}
structure Fill where
  dx:Tmp
  mid:List Oper
  tS:TypeId
  di:Tmp
  da:Tmp
  tE:TypeId
  dv:Tmp
def fillPlan (ops:List Oper) (h:Nat):Option Fill :=
  match ops with
  | o0 :: rest=>match rest.drop (rest.length-2),o0.op,o0.dst,o0.guard with
    | [o4,o5],.move (.tmp h'),some dx,none=>match o4.op,o4.dst,o4.guard,o5.op,o5.dst,o5.guard with
      | .indexAddr tS (.tmp dx') (.tmp di),some da,none,.store tE (.tmp da') (.tmp dv),none,none =>
        bif (Nat.beq h' h&&(Nat.beq dx' dx&&(Nat.beq da' da && !Nat.beq da dv)))&&((rest.take (rest.length-2)).all fun o=>o.guard.isNone&&(match o.dst with | some d=>!Nat.beq d dx | none=>true)) then
          some ⟨dx,rest.take (rest.length-2),tS,di,da,tE,dv⟩ else none
      | _,_,_,_,_,_=>none
    | _,_,_,_=>none
  | []=>none
theorem fillPlan_some {ops:List Oper} {h:Nat} {p:Fill} (hp:fillPlan ops h=some p):∃ o0 o4 o5:Oper,ops=o0 :: (p.mid++[o4,o5])∧o0.op = .move (.tmp h)∧o0.dst=some p.dx∧o0.guard=none ∧
    o4.op = .indexAddr p.tS (.tmp p.dx) (.tmp p.di)∧o4.dst=some p.da∧o4.guard=none∧o5.op = .store p.tE (.tmp p.da) (.tmp p.dv)∧o5.dst=none∧o5.guard=none∧p.da≠p.dv∧∀ o∈p.mid,o.guard=none∧o.dst≠some p.dx:=by
  unfold fillPlan at hp
  split at hp
  case h_2=>cases hp
  next o0 rest =>
  split at hp
  case h_2=>cases hp
  next o4 o5 h' dx hdrop hop hdst hg =>
  split at hp
  case h_2=>cases hp
  next tS dx' di da tE da' dv q1 q2 q3 q4 q5 q6 =>
  obtain ⟨hc,hp⟩:=cond_none hp
  cases hp
  simp only [Bool.and_eq_true,Bool.not_eq_true',List.all_eq_true] at hc
  obtain ⟨⟨e1,e2,e3,e4⟩,hall⟩:=hc
  have e1:=Nat.eq_of_beq_eq_true e1
  have e2:=Nat.eq_of_beq_eq_true e2
  have e3:=Nat.eq_of_beq_eq_true e3
  subst e1;subst e2;subst e3
  refine ⟨o0,o4,o5,?_,hop,hdst,hg,q1,q2,q3,q4,q5,q6,Nat.ne_of_beq_eq_false e4,fun o ho=>?_⟩
  · show o0 :: rest=o0 :: (rest.take _++[o4,o5])
    rw [← hdrop,List.take_append_drop]
  · have:=hall o ho
    refine ⟨by simpa using this.1,fun e=>?_⟩
    have h2:=this.2
    rw [e] at h2
    simp at h2
def tyIs (cx:Cx) (i:TypeId) (t:Ty):Bool :=
  match cx.ty i with
  | some u=>(Ty.eq? u t).isSome
  | none=>false
theorem tyIs_eq {cx:Cx} {i:TypeId} {t:Ty} (h:tyIs cx i t=true):cx.ty i=some t:=by
  unfold tyIs at h
  split at h
  · next u hu =>
    cases hq:Ty.eq? u t with
    | none=>rw [hq] at h;cases h
    | some e=>rw [hu,e.down]
  · cases h
def wipe (ws:List Nat):Nat→List V→List V
  | _,[]=>[]
  | n,v :: r=>(bif ws.contains n then V.undef else canonV v) :: wipe ws (n+1) r
theorem wipe_length (ws:List Nat):∀ (vs:List V) (n:Nat),(wipe ws n vs).length=vs.length
  | [],_=>rfl
  | v :: r,n=>by simp [wipe,wipe_length ws r (n+1)]
theorem wipe_get (ws:List Nat):∀ (vs:List V) (n j:Nat) (v:V),(wipe ws n vs)[j]? = some v→∃ v0,vs[j]? = some v0∧v=bif ws.contains (n+j) then V.undef else canonV v0
  | [],n,j,v,h=>by simp [wipe] at h
  | v0 :: r,n,0,v,h=>by simp only [wipe,List.getElem?_cons_zero,Option.some.injEq] at h;exact ⟨v0,rfl,h.symm⟩
  | v0 :: r,n,j+1,v,h=>by
    simp only [wipe,List.getElem?_cons_succ] at h
    obtain ⟨v1,h1,h2⟩:=wipe_get ws r (n+1) j v h
    exact ⟨v1,by simpa using h1,by rw [h2,show n+1+j=n+(j+1) by omega]⟩
noncomputable def fillPush (cx:Cx) (p:Fill) (n:Nat) (st:St) (f:St→Option ρ):Option ρ :=
  match st.get (.tmp p.di),st.bl[(0:Nat)]? with
  | .at (.int _ j),some (.arr 0 true true t l)=>bif (sliceTy cx p.tS t&&tyIs cx p.tE t)&&(Nat.ble (p.dx+1) st.tmps.length&&Nat.ble (p.da+1) st.tmps.length) then (bif decide (j=(l.length:Int)∧l.length<n) then
      (match evPush 0 (st.get (.tmp p.dv)) st with
      | some st'=>f (st'.put (some p.da) V.undef)
      | none=>none) else none) else none
  | _,_=>none
noncomputable def fillBack (dIx:Tmp) (t:Ty) (rec:Int × List t.den × Unit→Option ρ) (st:St):Option ρ :=
  match st.tmps.getD dIx V.undef,st.bl[(0:Nat)]? with
  | .at (.int .i64 i),some (.arr 1 true true t' l)=>match Ty.eq? t' t with
    | some e=>rec (i,e.down ▸ l,())
    | none=>none
  | _,_=>none
noncomputable def fillLeave (cx:Cx) (inl:Inl ρ) (h n:Nat) (cD:Code) (K:Ex→St→Option ρ) (st:St):Option ρ :=
  match st.bl[(0:Nat)]? with
  | some (.arr 0 true true t l)=>bif decide (l.length=n) then evCode cx inl [] cD ⟨(wipe [] 0 st.tmps).set h (.at (.os 0 0)),[.arr 0 true true t l],[]⟩ K else none
  | _=>none
noncomputable def fillRound (cx:Cx) (inl:Inl ρ) (h:Nat) (p:Fill) (n:Nat) (cR:Code) (q:Operand) (e0:Nat) (cS:Code) (ops5:List Oper) (cT cD:Code) (dIx:Tmp) (K:Ex→St→Option ρ) (t:Ty) (rec:Int × List t.den × Unit→Option ρ) (st:St):Option ρ :=
  evCode cx inl [] cR st (onN fun st=>evCode cx inl [] (.cond q .skip (.exit e0)) st (onC
    (fun st=>evCode cx inl [] cS st (onN fun st=>evOps cx inl [] ops5 p.mid (st.put (some p.dx) V.undef) fun st=>fillPush cx p n st fun st=>evCode cx inl [] cT st (onN (fillBack dIx t rec))))
    (fillLeave cx inl h n cD K) e0))
def fillSt (tm:List V) (dIx:Tmp) (t:Ty) (x:Int × List t.den × Unit):St:=⟨tm.set dIx (.at (.int .i64 x.1)),[.arr 0 true true t x.2.1],[]⟩
section
variable {P:Program} {cx:Cx} {E:Env} {w0 w:World} {μ:Lie} {st:St} {a:Act}
theorem same_row {w':World} {μ':Lie} {st':St} (hg:Goes w μ st w' μ' st') {g:Nat} {own own0 nf nf0:Bool} {t t0:Ty} {l:List t.den} {l0:List t0.den} (h:st.bl[(0:Nat)]? = some (.arr g own0 nf0 t0 l0)) (h':st'.bl[(0:Nat)]? = some (.arr g own nf t l)):μ' 0=μ 0:=by
  have hlt:0<st.bl.length:=by
    rcases Nat.lt_or_ge 0 st.bl.length with q | q
    · exact q
    · rw [List.getElem?_eq_none (by omega)] at h;cases h
  obtain ⟨g2,own2,nf2,l2,h1,h2,h3⟩:=hg.evo.arr 0 g own nf t l hlt h'
  rw [h] at h1
  cases h1
  exact (h3 rfl).2
theorem eval_keep {a a':Act} {h:Nat} (e:a'.tmps[h]? = a.tmps[h]?):a'.eval (.tmp h)=a.eval (.tmp h):=by
  show a'.tmps.getD h undef=a.tmps.getD h undef
  rw [Array.getD_eq_getD_getElem?,Array.getD_eq_getD_getElem?,e]
theorem opsDst_ex:∀ (os:List Oper) (u:Nat),u∈opsDst os→∃ (j:Nat) (o:Oper),os[j]? = some o∧o.dst=some u
  | [],u,h=>by cases h
  | o :: os,u,h=>by
    unfold opsDst at h
    cases hd:o.dst with
    | none =>
      rw [hd] at h
      obtain ⟨j,o',h1,h2⟩:=opsDst_ex os u h
      exact ⟨j+1,o',h1,h2⟩
    | some d =>
      rw [hd] at h
      rcases List.mem_cons.mp h with e | h
      · exact ⟨0,o,rfl,by rw [hd,e]⟩
      · obtain ⟨j,o',h1,h2⟩:=opsDst_ex os u h
        exact ⟨j+1,o',h1,h2⟩
theorem leave_sound {inl:Inl ρ} {h n:Nat} {cD:Code} {K:Ex→St→Option ρ} {r:ρ} (hR:Rel E w0 μ st a w) (hk:fillLeave cx inl h n cD K st=some r) {m0:Option (Nat × Nat)} {v0:Value} (hv0:RowVal m0 n v0)
    (hμ:∀ own nf t l,st.bl[(0:Nat)]? = some (.arr 0 own nf t l)→μ 0=m0) (hev:a.eval (.tmp h)=v0):∃ st' μ',Rel E w0 μ' st' a w∧evCode cx inl [] cD st' K=some r:=by
  unfold fillLeave at hk
  split at hk
  case h_2=>cases hk
  next t l hb =>
  obtain ⟨hn,hk⟩:=cond_none hk
  have hn:=of_decide_eq_true hn
  have hm:=hμ _ _ _ _ hb
  have r1:=refit hR hb (Or.inl ⟨rfl,rfl⟩) (tm:=wipe [] 0 st.tmps) (wipe_length _ _ _) fun j v hj=>by
    obtain ⟨v1,h1,h2⟩:=wipe_get _ _ _ _ _ hj
    exact Or.inr ⟨v1,h1,h2⟩
  refine ⟨_,fun _=>μ 0,r1.refine (d:=h) (x:=.at (.os 0 0)) ?_,hk⟩
  show RepV E w (fun _=>μ 0) [.arr 0 true true t l] (.at (.os 0 0)) (a.eval (.tmp h))
  rw [hev]
  refine ⟨⟨?_,Nat.zero_lt_one⟩,fun g' own nf u l' hb'=>?_⟩
  · unfold RowVal at hv0
    split at hv0
    · rw [hv0.1];rfl
    · rw [hv0];rfl
  · cases hb'
    exact ⟨Nat.le_refl _,fun _=>by show RowVal (μ 0) _ _;rw [hm,hn];exact hv0⟩
theorem fill_loop (hcx:cx.good P E.G) {inl:Inl ρ} (hinl:InlOk P E inl) {h n:Nat} {p:Fill} {cR cS cT cD:Code} {q:Operand} {e0 e1 id5:Nat} {ops5:Array Oper} {dIx:Tmp} {K:Ex→St→Option ρ} {r:ρ} (hp:fillPlan ops5.toList h=some p)
    (hh:h ∉ Code.writes (.seq cR (.seq (.cond q .skip (.exit e0)) (.seq (.block e1 (.seq cS (.region id5 ops5 false))) cT)))) {t:Ty} {tm:List V}
    (hbase:∀ (j:Nat) (v:V),tm[j]? = some v→(j∈Code.writes (.seq cR (.seq (.cond q .skip (.exit e0)) (.seq (.block e1 (.seq cS (.region id5 ops5 false))) cT)))→v=V.undef)∧v=canonV v)
    {m0:Option (Nat × Nat)} {v0:Value} (hv0:RowVal m0 n v0) (hcap:∀ k cap,m0=some (k,cap)→n≤cap) :
    ∀ (kf:Nat) (x:Int × List t.den × Unit) (μ:Lie) (a:Act) (w:World),Rel E w0 μ (fillSt tm dIx t x) a w→μ 0=m0→a.eval (.tmp h)=v0 →
      iter (fun rec x=>fillRound cx inl h p n cR q e0 cS ops5.toList cT cD dIx K t rec (fillSt tm dIx t x)) kf x=some r →
      LoopAt P (.seq cR (.seq (.cond q .skip (.exit e0)) (.seq (.block e1 (.seq cS (.region id5 ops5 false))) cT))) (fun e a' w'=>e = .exit e0∧∃ st' μ',Rel E w0 μ' st' a' w'∧evCode cx inl [] cD st' K=some r) a w:=by
  intro kf
  induction kf with
  | zero=>intro x μ a w _ _ _ hk;simp only [iter] at hk;cases hk
  | succ kf ih =>
    intro x μ a w hR hμ hev hk
    generalize hW:Code.writes (.seq cR (.seq (.cond q .skip (.exit e0)) (.seq (.block e1 (.seq cS (.region id5 ops5 false))) cT)))=W at *
    have hWR:∀ u,u∈Code.writes cR→u∈W:=fun u hu=>by rw [← hW];simp [Code.writes,hu]
    have hWC:∀ u,u∈Code.writes (.cond q .skip (.exit e0))→u∈W:=fun u hu=>by rw [← hW];exact List.mem_append_right _ (List.mem_append_left _ hu)
    have hWS:∀ u,u∈Code.writes cS→u∈W:=fun u hu=>by rw [← hW];simp [Code.writes,hu]
    have hW5:∀ u,u∈opsDst ops5.toList→u∈W:=fun u hu=>by rw [← hW];simp [Code.writes,hu]
    have hWT:∀ u,u∈Code.writes cT→u∈W:=fun u hu=>by rw [← hW];simp [Code.writes,hu]
    obtain ⟨o0,o4,o5,hops,p1,p2,p3,p4,p5,p6,p7,p8,p9,p10,p11⟩:=fillPlan_some hp
    have hdx:p.dx∈W:=hW5 _ (opsDst_mem _ 0 o0 _ (by rw [hops];rfl) p2)
    have hda:p.da∈W:=hW5 _ (opsDst_mem _ (p.mid.length+1) o4 _ (by rw [hops];simp) p5)
    have hb0:(fillSt tm dIx t x).bl[(0:Nat)]? = some (.arr 0 true true t x.2.1):=rfl
    simp only [iter] at hk
    unfold fillRound at hk
    refine loop_unroll (wp_seq (wp_mono (run_n hcx hinl hR hk) ?_))
    rintro e a2 w2 ⟨rfl,st2,μ2,hk2,hR2,k2,g2⟩
    have k2:=k2.more hWR
    refine wp_seq (wp_mono (run_c hcx hinl hR2 hk2) ?_)
    rintro e a3 w3 ⟨st3,μ3,hc,hR3,k3,g3⟩
    have k3:=k2.trans (k3.more hWC)
    have g3:=g2.trans g3
    rcases hc with ⟨rfl,hk3⟩ | ⟨rfl,hk3⟩
    · refine wp_seq (wp_block (wp_seq (wp_mono (run_n hcx hinl hR3 hk3) ?_)))
      rintro e a4 w4 ⟨rfl,st4,μ4,hk4,hR4,k4,g4⟩
      have k4:=k3.trans (k4.more hWS)
      have g4:=g3.trans g4
      refine wp_region ?_
      have hsz:ops5.size=p.mid.length+3:=by rw [← Array.length_toList,hops];simp
      have hrange:List.range ops5.size=0 :: (List.range' 1 p.mid.length++[p.mid.length+1,p.mid.length+2]):=by
        rw [List.range_eq_range',hsz,show p.mid.length+3=(p.mid.length+2)+1 from rfl,List.range'_succ,show p.mid.length+2=p.mid.length+2 from rfl]
        congr 1
        rw [← List.range'_append_1 (s:=0+1) (m:=p.mid.length) (n:=2)]
        congr 1
        simp [List.range',Nat.add_comm,Nat.add_left_comm]
      rw [hrange]
      have h0:ops5[0]? = some o0:=by rw [← Array.getElem?_toList,hops];rfl
      have hw0':Region.wanted o0 (yielded ops5 a4.tmps)=true:=by unfold Region.wanted;rw [p3]
      have hrun0:(execOp a4.eval o0).run P w4 = .ok (.value (a4.eval (.tmp h))) w4:=by unfold execOp;simp [p1]
      unfold wpOps
      simp only [h0]
      rw [if_pos hw0']
      refine Or.inl ?_
      unfold Oper.wp
      rw [hrun0]
      show wpOps P ops5 _ _ (a4.put o0.dst (a4.eval (.tmp h))) w4
      rw [p2]
      have hR5:=hR4.put (some p.dx) (x:=V.undef) (v:=a4.eval (.tmp h)) RepV.undef
      have k5:=k4.trans (Keeps.put (st:=st4) (a:=a4) (d:=some p.dx) (fun u e=>by cases e;exact hdx) V.undef (a4.eval (.tmp h)))
      have g5:=g4.trans (goes_put (w:=w4) (μ:=μ4) (st:=st4) (some p.dx) V.undef)
      refine evOps_part hcx hinl (W:=opsDst p.mid) p.mid 1 _ μ4 _ w4 (fun j o hj=>?_) (fun o ho=>⟨(p11 o ho).1,fun d hd=>?_⟩) hR5 hk4 ?_
      · rw [hops]
        have hlt:j<p.mid.length:=by
          rcases Nat.lt_or_ge j p.mid.length with q | q
          · exact q
          · rw [List.getElem?_eq_none q] at hj;cases hj
        rw [Nat.add_comm,List.getElem?_cons_succ,List.getElem?_append_left hlt]
        exact hj
      · obtain ⟨j,hj⟩:=List.getElem?_of_mem ho
        exact opsDst_mem _ j o d hj hd
      intro st6 μ6 a6 w6 hk6 hR6 k6 g6
      have hmid:∀ u,u∈opsDst p.mid→u∈W:=fun u hu=>by
        obtain ⟨j,o,h1,h2⟩:=opsDst_ex _ u hu
        refine hW5 u (opsDst_mem _ (j+1) o u ?_ h2)
        have hlt:=lt_of_get h1
        rw [hops,List.getElem?_cons_succ,List.getElem?_append_left hlt]
        exact h1
      have hdxm:p.dx ∉ opsDst p.mid:=fun hu=>by
        obtain ⟨j,o,h1,h2⟩:=opsDst_ex _ _ hu
        exact (p11 o (List.mem_of_getElem? h1)).2 h2
      have k7:=k5.trans (k6.more hmid)
      have g7:=g5.trans g6
      dsimp only at hk6
      unfold fillPush at hk6
      split at hk6
      case h_2=>cases hk6
      next kd j t6 l6 hi6 hb6 =>
      obtain ⟨hc1,hk6⟩:=cond_none hk6
      obtain ⟨hc2,hk6⟩:=cond_none hk6
      split at hk6
      case h_2=>cases hk6
      next st7 hp7 =>
      simp only [Bool.and_eq_true] at hc1
      obtain ⟨⟨c1,c2⟩,c3,c4⟩:=hc1
      have c3:=Nat.le_of_ble_eq_true c3
      have c4:=Nat.le_of_ble_eq_true c4
      obtain ⟨d1,d2⟩:=of_decide_eq_true hc2
      have hμ6:μ6 0=m0:=(same_row g7 hb0 hb6).trans hμ
      cases hm0:m0 with
      | none =>
        rw [hm0] at hv0
        have:=hv0.2
        omega
      | some kc =>
      obtain ⟨k,cap⟩:=kc
      have hv0':v0 = .slice (some ⟨k,0,none⟩) n cap:=by rw [hm0] at hv0;exact hv0
      have hhd:a6.eval (.tmp p.dx) = .slice (some ⟨k,0,none⟩) n cap:=by
        rw [eval_keep (k6.frame _ hdxm)]
        show (a4.tmps.setIfInBounds p.dx (a4.eval (.tmp h))).getD p.dx undef=_
        have hlt:p.dx<a4.tmps.size:=by
          have e1:=k6.len
          have e2:=hR4.slots.length
          simp only [Array.length_toList] at e2
          have e3:(st4.put (some p.dx) V.undef).tmps.length=st4.tmps.length:=by simp [St.put]
          have:p.dx<st6.tmps.length:=c3
          rw [e1,e3,e2] at this
          exact this
        rw [Array.getD_eq_getD_getElem?,Array.getElem?_setIfInBounds_self,if_pos hlt]
        show a4.eval (.tmp h)=_
        rw [eval_keep (k4.frame _ hh),hev,hv0']
      obtain ⟨g8,t8,l8,y8,vals,ty,fz,q1,_,q3,q4,q5,_,_,_,_,_,_⟩:=push_sound hR6 (hR6.get (.tmp p.dv)) hp7 (hμ6.trans hm0)
      rw [hb6] at q1
      cases q1
      refine fill_ops hcx.ok hR6 (i:=p.mid.length+1) (o4:=o4) (o5:=o5) (by rw [hops];simp) (by rw [hops];simp) p4 p5 p6 p7 p8 p9 p10 c4 (hμ6.trans hm0) hhd (hcap k cap hm0) hi6 hp7 hb6 d1 d2 c1 (tyIs_eq c2) fun a8 w8 hR8 hf8=>?_
      have k8:Keeps W (fillSt tm dIx t x) a (st7.put (some p.da) V.undef) a8:=by
        refine k7.trans ⟨by simp [St.put,q4],fun u hu=>?_,fun u hu=>hf8 u (by rintro rfl;exact hu hda)⟩
        have:p.da≠u:=by rintro rfl;exact hu hda
        simp only [St.put]
        rw [List.getElem?_set_ne this,q4]
      refine wp_mono (run_n hcx hinl hR8 hk6) ?_
      rintro e a9 w9 ⟨rfl,st9,μ9,hk9,hR9,k9,g9⟩
      have k9:=k8.trans (k9.more hWT)
      show LoopAt P _ _ a9 w9
      unfold fillBack at hk9
      split at hk9
      case h_2=>cases hk9
      next i9 t9 l9 hi9 hb9 =>
      split at hk9
      case h_2=>cases hk9
      next e9 _ =>
      obtain ⟨e9⟩:=e9
      subst e9
      have hb8:(st7.put (some p.da) V.undef).bl[(0:Nat)]? = some (.arr 1 true true t6 (l6++[y8])):=by rw [St.put_bl];exact q3
      have hμ9:μ9 0=m0:=(same_row g9 hb8 hb9).trans hμ6
      have hl9:tm.length=st9.tmps.length:=by rw [k9.len];simp [fillSt]
      refine ih (i9,l9,()) (fun _=>μ9 0) a9 w9 ?_ hμ9 ((eval_keep (k9.frame _ hh)).trans hev) hk9
      refine refit hR9 hb9 (Or.inl ⟨rfl,rfl⟩) (by rw [List.length_set];exact hl9) fun j v hj=>?_
      · by_cases e:dIx=j
        · subst e
          rw [List.getElem?_set] at hj
          rw [if_pos rfl] at hj
          split at hj
          · cases hj
            refine Or.inr ⟨.at (.int .i64 i9),?_,rfl⟩
            rw [List.getD_eq_getElem?_getD] at hi9
            cases hq:st9.tmps[dIx]? with
            | none=>rw [hq] at hi9;cases hi9
            | some z=>rw [hq] at hi9;exact congrArg some hi9
          · cases hj
        · rw [List.getElem?_set_ne e] at hj
          obtain ⟨b1,b2⟩:=hbase j v hj
          by_cases hjW:j∈W
          · exact Or.inl (b1 hjW)
          · refine Or.inr ⟨v,?_,b2⟩
            rw [k9.slots j hjW]
            show (tm.set dIx _)[j]? = some v
            rw [List.getElem?_set_ne e];exact hj
    · show _∧_
      refine ⟨rfl,leave_sound hR3 hk3 hv0 (fun own nf t' l' hb'=>(same_row g3 hb0 hb').trans hμ) ((eval_keep (k3.frame _ hh)).trans hev)⟩
end
end Go.Proofs.YtnohkcklakipoaaGreatDoor.Ev
set_option linter.unusedVariables false
set_option linter.unusedSimpArgs false
set_option maxRecDepth 100000
namespace Go.Proofs.YtnohkcklakipoaaGreatDoor.Ev
open Go Go.RowKit Go.Proofs
variable {ρ:Type}
structure FillCode where
  cA:Code
  cB:Code
  cC:Code
  e0:Nat
  cR:Code
  q:Operand
  e1:Nat
  cS:Code
  id5:Nat
  ops5:Array Oper
  cT:Code
  cD:Code
def FillCode.body (f:FillCode):Code:=.seq f.cR (.seq (.cond f.q .skip (.exit f.e0)) (.seq (.block f.e1 (.seq f.cS (.region f.id5 f.ops5 false))) f.cT))
def FillCode.code (f:FillCode):Code:=.seq f.cA (.seq f.cB (.seq (.seq f.cC (.block f.e0 (.loop f.body))) f.cD))
def fillParts:Code→Option FillCode
  | .seq cA (.seq cB (.seq (.seq cC (.block e0 (.loop (.seq cR (.seq (.cond q .skip (.exit e0')) (.seq (.block e1 (.seq cS (.region id5 ops5 false))) cT)))))) cD)) =>
    bif Nat.beq e0' e0 then some ⟨cA,cB,cC,e0,cR,q,e1,cS,id5,ops5,cT,cD⟩ else none
  | _=>none
theorem fillParts_some {c:Code} {f:FillCode} (h:fillParts c=some f):c=f.code:=by
  unfold fillParts at h
  split at h
  case h_2=>cases h
  next cA cB cC e0 cR q e0' e1 cS id5 ops5 cT cD =>
  obtain ⟨h1,h⟩:=cond_none h
  cases h
  have:=Nat.eq_of_beq_eq_true h1
  subst this
  rfl
noncomputable def evFillLoop (cx:Cx) (inl:Inl ρ) (h:Nat) (dIx:Tmp) (f:FillCode) (K:Ex→St→Option ρ) (st:St):Option ρ :=
  match fillPlan f.ops5.toList h,st.tmps.getD h V.undef,st.tmps.getD dIx V.undef with
  | some p,.at (.os b g),.at (.int .i64 i0)=>match st.bl[b]? with
    | some (.arr g' true nf t l)=>bif Nat.beq g g' && !(Code.writes f.body).contains h then
      iter (fun rec x=>fillRound cx inl h p l.length f.cR f.q f.e0 f.cS f.ops5.toList f.cT f.cD dIx K t rec (fillSt (wipe (Code.writes f.body) 0 st.tmps) dIx t x)) cx.k (i0,[],()) else none
    | _=>none
  | _,_,_=>none
noncomputable def evFillCode (cx:Cx) (inl:Inl ρ) (h:Nat) (dIx:Tmp) (f:FillCode) (K:Ex→St→Option ρ) (st:St):Option ρ :=
  evCode cx inl [] f.cA st (onN fun st=>evCode cx inl [] f.cB st (onN fun st=>evCode cx inl [] f.cC st (onN (evFillLoop cx inl h dIx f K))))
section
variable {P:Program} {cx:Cx} {E:Env} {w0 w:World} {μ:Lie} {st:St} {a:Act}
def PostW (E:Env) (w0:World) (K:Ex→St→Option ρ) (r:ρ) (e:Exit) (a':Act) (w':World):Prop :=
  ∃ ex st' μ',exOf ex=e∧K ex st'=some r∧Rel E w0 μ' st' a' w'
theorem fill_sound (hcx:cx.good P E.G) {inl:Inl ρ} (hinl:InlOk P E inl) {h:Nat} {dIx:Tmp} {f:FillCode} {K:Ex→St→Option ρ} {r:ρ} (hR:Rel E w0 μ st a w) (hk:evFillCode cx inl h dIx f K st=some r):f.code.wp P (PostW E w0 K r) a w:=by
  unfold evFillCode at hk
  refine wp_seq (wp_mono (run_n hcx hinl hR hk) ?_)
  rintro e a1 w1 ⟨rfl,st1,μ1,hk1,hR1,_,_⟩
  refine wp_seq (wp_mono (run_n hcx hinl hR1 hk1) ?_)
  rintro e a2 w2 ⟨rfl,st2,μ2,hk2,hR2,_,_⟩
  refine wp_seq (wp_seq (wp_mono (run_n hcx hinl hR2 hk2) ?_))
  rintro e a3 w3 ⟨rfl,st3,μ3,hk3,hR3,_,_⟩
  unfold evFillLoop at hk3
  split at hk3
  case h_2=>cases hk3
  next p b g i0 hp hh hi =>
  split at hk3
  case h_2=>cases hk3
  next g' nf t l hb =>
  have hc:=(cond_none hk3).1
  replace hk3:=(cond_none hk3).2
  rw [Bool.and_eq_true,Bool.not_eq_true'] at hc
  obtain ⟨hg,hnot⟩:=hc
  have hg:=Nat.eq_of_beq_eq_true hg
  subst hg
  have hnot:h ∉ Code.writes f.body:=by simpa using hnot
  have hrow:=hR3.tmp h
  rw [hh] at hrow
  have hv0:=(hrow.2 _ _ _ _ _ hb).2 rfl
  have hcap:∀ k cap,μ3 b=some (k,cap)→l.length≤cap:=by
    intro k cap hm
    rcases hR3.mem.blocks b _ hb with ⟨h1,h2⟩ | ⟨k',cap',vals,ty,fz,h1,h2,h3,h4,h5,h6,h7⟩
    · rw [h2];exact Nat.zero_le _
    · rw [h1] at hm;cases hm;exact h5
  have hbase:∀ (j:Nat) (v:V),(wipe (Code.writes f.body) 0 st3.tmps)[j]? = some v→(j∈Code.writes f.body→v=V.undef)∧v=canonV v:=by
    intro j v hj
    obtain ⟨v1,_,h2⟩:=wipe_get _ _ _ _ _ hj
    rw [Nat.zero_add] at h2
    cases hq:(Code.writes f.body).contains j with
    | true=>rw [hq] at h2;exact ⟨fun _=>h2,by rw [h2];rfl⟩
    | false =>
      rw [hq] at h2
      refine ⟨fun hm=>?_,by rw [h2];exact (canonV_idem _).symm⟩
      have:(Code.writes f.body).contains j=true:=by simpa using hm
      rw [hq] at this;cases this
  have hstart:Rel E w0 (fun _=>μ3 b) (fillSt (wipe (Code.writes f.body) 0 st3.tmps) dIx t (i0,[],())) a3 w3:=by
    refine refit hR3 hb (Or.inr rfl) (by rw [List.length_set,wipe_length]) fun j v hj=>?_
    by_cases e:dIx=j
    · subst e
      rw [List.getElem?_set,if_pos rfl] at hj
      split at hj
      · cases hj
        refine Or.inr ⟨.at (.int .i64 i0),?_,rfl⟩
        rw [List.getD_eq_getElem?_getD] at hi
        cases hq:st3.tmps[dIx]? with
        | none=>rw [hq] at hi;cases hi
        | some z=>rw [hq] at hi;exact congrArg some hi
      · cases hj
    · rw [List.getElem?_set_ne e] at hj
      obtain ⟨v1,h1,h2⟩:=wipe_get _ _ _ _ _ hj
      rw [Nat.zero_add] at h2
      cases hq:(Code.writes f.body).contains j with
      | true=>rw [hq] at h2;exact Or.inl h2
      | false=>rw [hq] at h2;exact Or.inr ⟨v1,h1,h2⟩
  have hloop:=fill_loop hcx hinl (e1:=f.e1) (id5:=f.id5) hp hnot hbase hv0 hcap _ _ (fun _=>μ3 b) a3 w3 hstart rfl rfl hk3
  refine wp_block (wp_mono (wp_loop_at hloop) ?_)
  rintro e a4 w4 ⟨rfl,st4,μ4,hR4,hk4⟩
  show (if f.e0=f.e0 then _ else _)
  rw [if_pos rfl]
  refine wp_mono (evCode_sound hcx hinl f.cD w0 st4 K r μ4 a4 w4 hR4 hk4) ?_
  rintro e a5 w5 ⟨ex,st5,μ5,h1,h2,h3,_,_⟩
  exact ⟨ex,st5,μ5,h1,h2,h3⟩
def fillEnd (cx:Cx) (fn:Func) (res:List (Ty × Bool)) (fresh:Bool):Ex→St→Option (denR res)
  | .exit _,_=>none
  | .normal,st'=>endFn cx fn res fresh st'
  | .ret,st'=>endFn cx fn res fresh st'
noncomputable def evFill (cx:Cx) (d h:Nat) (dIx:Tmp) (fn:Func) (params:List Ty) (res:List (Ty × Bool)) (fresh:Bool) (x:denL params):Option (denR res) :=
  match fn.body with
  | some c=>match fillParts c with
    | some f=>evFillCode cx (evInl cx d) h dIx f (fillEnd cx fn res fresh) { tmps:=enter fn.ntmps (giveArgs params x),bl:=[],lock:=[] }
    | none=>none
  | none=>none
theorem evFill_ok {G:World→Prop} (hcx:cx.good P G) (d h:Nat) (dIx:Tmp) {f:FuncId} {fn:Func} (hf:cx.body f=some fn) (s:CSpec) (hs:∀ x r,s.sem x=some r→evFill cx d h dIx fn s.params s.res s.fresh x=some r):s.ok P G f:=by
  cases hc:fn.body with
  | none =>
    obtain ⟨p1,p2,p3⟩:=hcx.ok.body f fn hf
    rw [hc] at p3;cases p3
  | some c =>
    refine evFn_ok_of hcx hf s hc (fillEnd cx fn s.res s.fresh) (fun ex st' r h=>?_) fun x r hsem E w a hG hR=>?_
    · cases ex with
      | exit i=>cases h
      | normal=>exact ⟨fun i e=>(by cases e),h⟩
      | ret=>exact ⟨fun i e=>(by cases e),h⟩
    · subst hG
      have hk:=hs x r hsem
      unfold evFill at hk
      rw [hc] at hk
      dsimp only at hk
      split at hk
      case h_2=>cases hk
      next fc hp =>
      rw [fillParts_some hp]
      exact fill_sound hcx (evInl_sound hcx d) hR hk
end
end Go.Proofs.YtnohkcklakipoaaGreatDoor.Ev
