/- Regions that draw their order. -/
import Derived.Test.YtnohkcklakipoaaGreatDoorEv3
namespace Go.Proofs.YtnohkcklakipoaaGreatDoor.Ev
open Go Go.RowKit
set_option linter.unusedVariables false
set_option linter.unusedSimpArgs false
variable {ρ:Type}
section
variable {P:Program} {cx:Cx} {E:Env} {w0 w:World} {μ:Lie} {st:St} {a:Act} {o:Oper}
theorem binInt_det {op:BinOp} {k:IntKind} {x y:Int} {K:A→Option ρ} {r:ρ} (h:binInt op k x y K=some r):∃ X,K X=some r∧∀ {σ:Type} (K':A→Option σ),binInt op k x y K'=K' X:=by
  cases op <;> simp only [binInt,reduceCtorEq] at h
  all_goals first
    | exact ⟨_,h,fun K'=>rfl⟩
    | (obtain ⟨hc,h⟩:=cond_none' h
       exact ⟨_,h,fun K'=>by simp only [binInt,hc,cond_false]⟩)
theorem binStr_det {op:BinOp} {x y:ByteArray} {K:A→Option ρ} {r:ρ} (h:binStr op x y K=some r):∃ X,K X=some r∧∀ {σ:Type} (K':A→Option σ),binStr op x y K'=K' X:=by
  cases op <;> simp only [binStr,reduceCtorEq] at h
  all_goals first
    | exact ⟨_,h,fun K'=>rfl⟩
    | (obtain ⟨hc,h⟩:=cond_none h
       exact ⟨_,h,fun K'=>by simp only [binStr,hc,cond_true]⟩)
theorem evBin_det {ty:Option Ty} {cmp:Bool} {op:BinOp} {x y:Operand} {K:V→Option ρ} {r:ρ} (h:evBin ty cmp op x y st K=some r):∃ X,K X=some r∧∀ {σ:Type} (K':V→Option σ),evBin ty cmp op x y st K'=K' X:=by
  have shift:∀ {k:IntKind} {u v:Int} (n:Int),(bif decide (0≤v) then K (.at (.int k n)) else none)=some r→∃ X,K X=some r∧(decide (0≤v))=true∧X = .at (.int k n):=by
    intro k u v n h
    obtain ⟨h1,h2⟩:=cond_none h
    exact ⟨_,h2,h1,rfl⟩
  unfold evBin at h
  split at h
  · split at h
    · next k u k' v hx hy =>
      obtain ⟨h1,h2⟩:=cond_none h
      exact ⟨_,h2,fun K'=>by unfold evBin;simp only [hx,hy,h1,cond_true]⟩
    · cases h
  · split at h
    · next k u k' v hx hy =>
      obtain ⟨h1,h2⟩:=cond_none h
      exact ⟨_,h2,fun K'=>by unfold evBin;simp only [hx,hy,h1,cond_true]⟩
    · cases h
  · next hn1 hn2 =>
    split at h
    · next k u k' v hx hy =>
      split at h
      · next e =>
        obtain ⟨X,h1,h2⟩:=binInt_det h
        refine ⟨.at X,h1,fun K'=>?_⟩
        unfold evBin
        split
        · exact absurd rfl hn1
        · exact absurd rfl hn2
        · simp only [hx,hy]
          rw [if_pos e]
          exact h2 _
      · cases h
    · next u v hx hy =>
      obtain ⟨X,h1,h2⟩:=binStr_det h
      refine ⟨.at X,h1,fun K'=>?_⟩
      unfold evBin
      split
      · exact absurd rfl hn1
      · exact absurd rfl hn2
      · simp only [hx,hy]
        exact h2 _
    · next u v hx hy =>
      split at h
      case h_2=>cases h
      split at h
      · exact ⟨_,h,fun K'=>by unfold evBin;simp only [hx,hy]⟩
      · exact ⟨_,h,fun K'=>by unfold evBin;simp only [hx,hy]⟩
      · cases h
    · next v b hx =>
      split at h
      case h_2=>cases h
      obtain ⟨h1,h2⟩:=cond_none h
      split at h2
      · exact ⟨_,h2,fun K'=>by unfold evBin;simp only [hx,h1,cond_true]⟩
      · exact ⟨_,h2,fun K'=>by unfold evBin;simp only [hx,h1,cond_true]⟩
      · cases h2
    · next u v hx hy =>
      split at h
      case h_2=>cases h
      next t =>
      have hc:=(cond_none h).1
      replace h:=(cond_none h).2
      split at h
      case h_2=>cases h
      next b hs =>
      split at h
      · exact ⟨_,h,fun K'=>by unfold evBin;simp only [hx,hy,hc,cond_true,hs]⟩
      · exact ⟨_,h,fun K'=>by unfold evBin;simp only [hx,hy,hc,cond_true,hs]⟩
      · cases h
    · cases h
theorem evPure_det {K:V→Option ρ} {r:ρ} (hk:match o.op with
    | .move _ | .assign _ | .pick _ _ _ | .load _ _ | .nilCheck _ | .fieldAddr _ _ _ | .field _ _ _ | .indexAddr _ _ _ | .index _ _ _ | .binOp _ _ _ _ _ | .unOp _ _ _ | .slice _ _ _ _ none | .convert _ _ _ | .extract _ _ | .build _ _=>True
    | .call c=>c.callee = .builtin .len
    | _=>False) (h:evPure cx o st K=some r):∃ X,K X=some r∧∀ {σ:Type} (K':V→Option σ),evPure cx o st K'=K' X:=by
  cases ho:o.op <;> rw [ho] at hk <;> (try exact hk.elim)
  case move x=>unfold evPure at h;simp only [ho] at h;exact ⟨_,h,fun K'=>by unfold evPure;simp only [ho]⟩
  case assign x=>unfold evPure at h;simp only [ho] at h;exact ⟨_,h,fun K'=>by unfold evPure;simp only [ho]⟩
  case pick c x y =>
    unfold evPure at h;simp only [ho] at h
    split at h
    · next b hb =>
      cases b with
      | true=>exact ⟨_,h,fun K'=>by unfold evPure;simp only [ho,hb];rfl⟩
      | false=>exact ⟨_,h,fun K'=>by unfold evPure;simp only [ho,hb];rfl⟩
    · cases h
  case load t x =>
    unfold evPure at h;simp only [ho] at h
    split at h
    · next ty cs off h1 h2 =>
      obtain ⟨h3,h⟩:=cond_none h
      exact ⟨_,h,fun K'=>by unfold evPure;simp only [ho,h1,h2,h3,cond_true]⟩
    · cases h
  case nilCheck x =>
    unfold evPure at h;simp only [ho] at h
    split at h
    · next v hv=>exact ⟨_,h,fun K'=>by unfold evPure;simp only [ho,hv]⟩
    · cases h
  case fieldAddr t x f =>
    unfold evPure at h;simp only [ho] at h
    split at h
    · next ty h1 =>
      split at h
      · next d u v h2 h3=>exact ⟨_,h,fun K'=>by unfold evPure;simp only [ho,h1,h2,h3]⟩
      · cases h
    · cases h
  case field t x f =>
    unfold evPure at h;simp only [ho] at h
    split at h
    · next ty h1 =>
      split at h
      · next d u cs h2 h3 =>
        obtain ⟨h4,h⟩:=cond_none h
        exact ⟨_,h,fun K'=>by unfold evPure;simp only [ho,h1,h2,h3,h4,cond_true]⟩
      · cases h
    · cases h
  case indexAddr t x i =>
    unfold evPure at h;simp only [ho] at h
    split at h
    · next k i' h1 =>
      split at h
      · next fr u l h2 =>
        obtain ⟨h3,h⟩:=cond_none h
        obtain ⟨h4,h⟩:=cond_none h
        exact ⟨_,h,fun K'=>by unfold evPure;simp only [ho,h1,h2,h3,h4,cond_true]⟩
      · next b g h2 =>
        split at h
        · next g' own nf u l hb =>
          obtain ⟨h3,h⟩:=cond_none h
          obtain ⟨h4,h⟩:=cond_none h
          exact ⟨_,h,fun K'=>by unfold evPure;simp only [ho,h1,h2,hb,h3,h4,cond_true]⟩
        · cases h
      · cases h
    · cases h
  case index t x i =>
    unfold evPure at h;simp only [ho] at h
    split at h
    · next s k i' h1 h2 =>
      obtain ⟨h3,h⟩:=cond_none h
      obtain ⟨h4,h⟩:=cond_none h
      exact ⟨_,h,fun K'=>by unfold evPure;simp only [ho,h1,h2,h3,h4,cond_true]⟩
    · cases h
  case binOp op t x y t' =>
    unfold evPure at h;simp only [ho] at h
    obtain ⟨X,h1,h2⟩:=evBin_det h
    exact ⟨X,h1,fun K'=>by unfold evPure;simp only [ho];exact h2 K'⟩
  case unOp op t x =>
    unfold evPure at h;simp only [ho] at h
    split at h
    · next b hx=>exact ⟨_,h,fun K'=>by unfold evPure;simp only [ho,hx]⟩
    · next k n hx=>exact ⟨_,h,fun K'=>by unfold evPure;simp only [ho,hx]⟩
    · cases h
  case slice t x lo hi mx =>
    cases mx with
    | some m=>exact hk.elim
    | none =>
    unfold evPure at h;simp only [ho] at h
    unfold evSlice at h
    split at h
    · next s hx =>
      split at h
      · next u v h1 h2 =>
        obtain ⟨h3,h⟩:=cond_none h
        obtain ⟨h4,h⟩:=cond_none h
        exact ⟨_,h,fun K'=>by unfold evPure evSlice;simp only [ho,hx,h1,h2,h3,h4,cond_true]⟩
      · cases h
    · next fr u l hx =>
      split at h
      · next p v h1 h2 =>
        obtain ⟨h3,h⟩:=cond_none h
        obtain ⟨h4,h⟩:=cond_none h
        exact ⟨_,h,fun K'=>by unfold evPure evSlice;simp only [ho,hx,h1,h2,h3,h4,cond_true]⟩
      · cases h
    · cases h
  case convert s d x =>
    unfold evPure at h;simp only [ho] at h
    split at h
    · next k k' h1 h2 =>
      split at h
      · next q n hx=>exact ⟨_,h,fun K'=>by unfold evPure;simp only [ho,h1,h2,hx]⟩
      · cases h
    · next h1 h2 =>
      split at h
      · next n hx=>exact ⟨_,h,fun K'=>by unfold evPure;simp only [ho,h1,h2,hx]⟩
      · cases h
    · next h1 h2 =>
      split at h
      · next n hx =>
        split at h
        · next fr l hv=>exact ⟨_,h,fun K'=>by unfold evPure;simp only [ho,h1,h2,hx,hv]⟩
        · cases h
      · cases h
    · cases h
  case extract x i =>
    unfold evPure at h;simp only [ho] at h
    split at h
    · next vs hx =>
      split at h
      · next cs hc=>exact ⟨_,h,fun K'=>by unfold evPure;simp only [ho,hx,hc]⟩
      · next c hc=>exact ⟨_,h,fun K'=>by unfold evPure;simp only [ho,hx,hc]⟩
      · cases h
    · cases h
  case build t ps =>
    unfold evPure at h;simp only [ho] at h
    split at h
    · next u h1 =>
      split at h
      · next cs h2=>exact ⟨_,h,fun K'=>by unfold evPure;simp only [ho,h1,h2]⟩
      · cases h
    · cases h
  case call c =>
    have hk:c.callee = .builtin .len:=hk
    unfold evPure at h;simp only [ho,hk] at h
    split at h
    · next x t h1 h2 =>
      split at h
      · next n e h3 h4=>exact ⟨_,h,fun K'=>by unfold evPure;simp only [ho,hk,h1,h2,h3,h4]⟩
      · next n h3 h4=>exact ⟨_,h,fun K'=>by unfold evPure;simp only [ho,hk,h1,h2,h3,h4]⟩
      · cases h
    · cases h
theorem evCalm_det {K:V→Option ρ} {r:ρ} (h:evCalm cx o st K=some r):∃ X,K X=some r∧∀ {σ:Type} (K':V→Option σ),evCalm cx o st K'=K' X:=by
  have viaPure:(match o.op with
    | .move _ | .assign _ | .pick _ _ _ | .load _ _ | .nilCheck _ | .fieldAddr _ _ _ | .field _ _ _ | .indexAddr _ _ _ | .index _ _ _ | .binOp _ _ _ _ _ | .unOp _ _ _ | .slice _ _ _ _ none | .convert _ _ _ | .extract _ _ | .build _ _=>True
    | .call c=>c.callee = .builtin .len
    | _=>False)→(∀ {σ:Type} (K':V→Option σ),evCalm cx o st K'=evPure cx o st K')→∃ X,K X=some r∧∀ {σ:Type} (K':V→Option σ),evCalm cx o st K'=K' X:=by
    intro hk he
    rw [he K] at h
    obtain ⟨X,h1,h2⟩:=evPure_det hk h
    exact ⟨X,h1,fun K'=>by rw [he K'];exact h2 K'⟩
  cases ho:o.op
  case call c =>
    cases hc:c.callee with
    | builtin b =>
      cases b
      case len=>exact viaPure (by rw [ho];exact hc) (fun K'=>by unfold evCalm;simp only [ho,hc])
      all_goals (unfold evCalm at h;simp only [ho,hc,reduceCtorEq] at h)
    | invoke x n=>unfold evCalm at h;simp only [ho,hc,reduceCtorEq] at h
    | value f =>
      cases f with
      | func f =>
        unfold evCalm at h;simp only [ho,hc] at h
        split at h
        · next s hs =>
          obtain ⟨h1,h⟩:=cond_none h
          split at h
          · next x hx =>
            cases hsem:s.sem x with
            | none=>rw [hsem] at h;cases h
            | some y =>
              rw [hsem] at h
              exact ⟨_,h,fun K'=>by unfold evCalm;simp only [ho,hc,hs,h1,cond_true,hx,hsem,Option.bind_some]⟩
          · cases h
        · cases h
      | tmp t=>unfold evCalm at h;simp only [ho,hc,reduceCtorEq] at h
      | const t=>unfold evCalm at h;simp only [ho,hc,reduceCtorEq] at h
      | global t=>unfold evCalm at h;simp only [ho,hc,reduceCtorEq] at h
  case buildSlice t n ps =>
    unfold evCalm at h;simp only [ho] at h
    split at h
    case h_2=>cases h
    next e he =>
    obtain ⟨h1,h⟩:=cond_none h
    split at h
    case h_2=>cases h
    next l hl=>exact ⟨_,h,fun K'=>by unfold evCalm;simp only [ho,he,h1,cond_true,hl]⟩
  case slice t x lo hi mx =>
    cases mx with
    | some m=>unfold evCalm at h;simp only [ho,reduceCtorEq] at h
    | none=>exact viaPure (by rw [ho];trivial) (fun K'=>by unfold evCalm;simp only [ho])
  all_goals first
    | exact viaPure (by rw [ho];trivial) (fun K'=>by unfold evCalm;simp only [ho])
    | (unfold evCalm at h;simp only [ho,reduceCtorEq] at h)
theorem fillIn_congr {st':St} {t:Ty}:∀ (ps:List (Nat × Operand)) (cs:List A),(∀ p∈ps,st'.get p.2=st.get p.2)→fillIn t st' ps cs=fillIn t st ps cs
  | [],cs,h=>rfl
  | (j,x) :: r,cs,h=>by
    have hx:st'.get x=st.get x:=h (j,x) (by simp)
    have ih:=fun cs=>fillIn_congr (t:=t) r cs fun p hp=>h p (List.mem_cons_of_mem _ hp)
    unfold fillIn
    simp only [hx,ih]
theorem loadBound_congr {st':St} {x:Option Operand} {d:Int} (h:∀ y,x=some y→st'.get y=st.get y):loadBound st' x d=loadBound st x d:=by
  cases x with
  | none=>rfl
  | some y=>unfold loadBound;simp only [h y rfl]
theorem evPure_congr {st':St} (hb:st'.bl=st.bl) (hg:∀ x∈o.op.operands,st'.get x=st.get x) {K:V→Option ρ} (hk:match o.op with
    | .move _ | .assign _ | .pick _ _ _ | .load _ _ | .nilCheck _ | .fieldAddr _ _ _ | .field _ _ _ | .indexAddr _ _ _ | .index _ _ _ | .binOp _ _ _ _ _ | .unOp _ _ _ | .slice _ _ _ _ none | .convert _ _ _ | .extract _ _ | .build _ _=>True
    | .call c=>c.callee = .builtin .len
    | _=>False):evPure cx o st' K=evPure cx o st K:=by
  cases ho:o.op <;> rw [ho] at hk hg <;> (try exact hk.elim) <;> simp only [Op.operands] at hg
  case call c =>
    have hk:c.callee = .builtin .len:=hk
    unfold evPure
    simp only [ho,hk]
    have hop:c.operands=c.args:=by unfold Call.operands;rw [hk];simp
    rw [hop] at hg
    have:∀ x,c.args.toList=[x]→st'.get x=st.get x:=fun x hx=>hg x (by rw [← Array.mem_toList_iff,hx];simp)
    split
    · next x t h1 h2=>rw [this x h1,hb]
    · rfl
  all_goals
    unfold evPure
    simp only [ho]
  case binOp op t x y t' =>
    have hx:=hg x (by simp)
    have hy:=hg y (by simp)
    unfold evBin
    rw [hx,hy]
  case slice t x lo hi mx =>
    cases mx with
    | some m=>exact hk.elim
    | none =>
    have hx:=hg x (by simp)
    have h1:∀ d,loadBound st' lo d=loadBound st lo d:=fun d=>loadBound_congr fun y e=>hg y (by simp [e])
    have h2:∀ d,loadBound st' hi d=loadBound st hi d:=fun d=>loadBound_congr fun y e=>hg y (by simp [e])
    simp only [hx]
    unfold evSlice
    simp only [h1,h2]
  case build t ps =>
    have h1:∀ u cs,fillIn u st' ps.toList cs=fillIn u st ps.toList cs:=fun u cs=>fillIn_congr ps.toList cs fun p hp=>hg p.2 (by simpa using ⟨p.1,by simpa using hp⟩)
    simp only [h1]
  all_goals
    simp at hg
    simp only [hb,hg]
theorem fillElems_congr {st':St} {e:Ty} (hb:st'.bl=st.bl):∀ (ps:List (Nat × Operand)) (i:Nat) {n:Nat},(∀ p∈ps,st'.get p.2=st.get p.2)→fillElems e st' ps i n=fillElems e st ps i n
  | [],i,n,h=>rfl
  | (j,x) :: r,i,n,h=>by
    have hx:st'.get x=st.get x:=h (j,x) (by simp)
    simp only [fillElems,hx,hb,fillElems_congr hb r (i+1) (fun p hp=>h p (List.mem_cons_of_mem _ hp))]
theorem evCalm_congr {st':St} (hb:st'.bl=st.bl) (hg:∀ x∈o.op.operands,st'.get x=st.get x) {K:V→Option ρ}:evCalm cx o st' K=evCalm cx o st K:=by
  cases ho:o.op
  case call c =>
    cases hc:c.callee with
    | builtin b =>
      cases b
      case len =>
        have:=evPure_congr (cx:=cx) (o:=o) hb hg (K:=K) (by rw [ho];exact hc)
        unfold evCalm;simp only [ho,hc];exact this
      all_goals (unfold evCalm;simp only [ho,hc])
    | invoke x n=>unfold evCalm;simp only [ho,hc]
    | value f =>
      cases f with
      | func f =>
        rw [ho] at hg
        simp only [Op.operands] at hg
        have hop:∀ x∈c.args.toList,st'.get x=st.get x:=fun x hx=>hg x (by unfold Call.operands;rw [hc];simp;right;simpa using hx)
        have hm:c.args.toList.map st'.get=c.args.toList.map st.get:=List.map_congr_left hop
        unfold evCalm;simp only [ho,hc,hb,hm]
      | tmp t=>unfold evCalm;simp only [ho,hc]
      | const t=>unfold evCalm;simp only [ho,hc]
      | global t=>unfold evCalm;simp only [ho,hc]
  case buildSlice t n ps =>
    have hop:∀ p∈ps.toList,st'.get p.2=st.get p.2:=fun p hp=>hg p.2 (by rw [ho];simp only [Op.operands];simpa using ⟨p.1,by simpa using hp⟩)
    have h1:(ps.toList.map fun p=>st'.get p.2)=ps.toList.map fun p=>st.get p.2:=List.map_congr_left hop
    have h2:(ps.toList.flatMap fun p=>(st'.get p.2).cells)=ps.toList.flatMap fun p=>(st.get p.2).cells:=by
      rw [List.flatMap_def,List.flatMap_def,List.map_congr_left fun p hp=>by rw [hop p hp]]
    unfold evCalm;simp only [ho,hb,h1,h2]
    cases he:elemTy cx t with
    | none=>rfl
    | some e=>simp only [fillElems_congr hb ps.toList 0 hop]
  case slice t x lo hi mx =>
    cases mx with
    | some m=>unfold evCalm;simp only [ho]
    | none =>
      have:=evPure_congr (cx:=cx) (o:=o) hb hg (K:=K) (by rw [ho];trivial)
      unfold evCalm;simp only [ho];exact this
  all_goals first
    | (have:=evPure_congr (cx:=cx) (o:=o) hb hg (K:=K) (by rw [ho];trivial)
       unfold evCalm;simp only [ho];exact this)
    | (unfold evCalm;simp only [ho])
theorem giveRes_plain {f:Bool}:∀ (ts:List (Ty × Bool)) (r:denR ts) (n:Nat),(ts.all fun t=>!t.2)=true→(giveRes f ts r n).2=[]∧(giveRes f ts r n).1=(giveRes f ts r 0).1
  | [],_,_,_=>⟨rfl,rfl⟩
  | [(t,b)],r,n,h=>by
    cases b with
    | true=>simp at h
    | false=>exact ⟨rfl,rfl⟩
  | (t,b) :: u :: ts,r,n,h=>by
    cases b with
    | true=>simp at h
    | false =>
      have h':((u :: ts).all fun t=>!t.2)=true:=by
        rw [List.all_cons,Bool.and_eq_true] at h;exact h.2
      have h1:=giveRes_plain (f:=f) (u :: ts) r.2 (n+0) h'
      have h2:=giveRes_plain (f:=f) (u :: ts) r.2 (0+0) h'
      constructor
      · show []++(giveRes f (u :: ts) r.2 (n+0)).2=[]
        rw [h1.1];rfl
      · show _ :: (giveRes f (u :: ts) r.2 (n+0)).1=_ :: (giveRes f (u :: ts) r.2 (0+0)).1
        rw [h1.2]
        rfl
theorem NewTrees.plain {f:Bool} {ts:List (Ty × Bool)} {r:denR ts} {B:Nat} {w':World} {ms:List (Option (Nat × Nat))} (h:(ts.all fun t=>!t.2)=true):∃ Fs,NewTrees B w' (giveRes f ts r 0).2 ms Fs :=
  ⟨[],NewTrees.none fun i g t l q=>by rw [(giveRes_plain ts r 0 h).1] at q;simp at q⟩
theorem calm_build (hcx:cx.ok P) (hR:Rel E w0 μ st a w) {t:TypeId} {n:Nat} {ps:Array (Nat × Operand)} {e:Ty} {l:List e.den} (ho:o.op = .buildSlice t n ps) (he:elemTy cx t=some e) (hb:n*e.size≤16777216)
    (hl:fillElems e st ps.toList 0 n=some l) (hrows:rowsIn (ps.toList.map fun p=>st.get p.2)=[]) (hnf:newAlone st.bl (ps.toList.flatMap fun p=>(st.get p.2).cells)=true) :
    ∃ v w',(execOp a.eval o).run P w = .ok (.value v) w'∧RepV E w' μ st.bl (.at (.sl true e l)) v∧Rel E w0 μ st a w'∧Goes w μ st w' μ st:=by
  obtain ⟨u,hu,hte⟩:=elemTy_sound hcx he
  have hf:freezeAll st (rowsIn (ps.toList.map fun p=>st.get p.2))=some st:=by rw [hrows];rfl
  obtain ⟨r1,t1,g1,o1,f1,k1⟩:=freezeAll_sound _ hR hf
  obtain ⟨news,hch,hlen,hfill⟩:=fillElems_sound (need:=true) (bs:=rowsIn (ps.toList.map fun p=>st.get p.2)) hR ps.toList 0 n l hl
    (fun p hp b hbm=>by
      unfold rowsIn
      rw [List.mem_flatMap]
      exact ⟨st.get p.2,List.mem_map.mpr ⟨p,hp,rfl⟩,hbm⟩)
    (fun p hp c hc fr u' l' e' hne=>by
      have:=newAlone_get _ (newAlone_flat _ _ hnf p hp) c hc
      rw [e'] at this;exact this)
  obtain ⟨hlen,_⟩:=hlen
  rw [Nat.add_zero] at hlen
  subst hlen
  obtain ⟨Z,hZ⟩:∃ Z:Array Value,Z=if l.length*e.size=0 then #[] else (zeroVals e).toArray:=⟨_,rfl⟩
  have hfl:=hfill ((Array.range (l.length*e.size)).map (Z[· % Z.size]!)) (by simp)
  rw [Nat.zero_mul,Array.toList_map,Array.toList_range] at hfl
  obtain ⟨cells,hcells⟩:∃ cells:Array Value,cells=(writeAt ((List.range (l.length*e.size)).map (Z[· % Z.size]!)) 0 news).toArray:=⟨_,rfl⟩
  rw [← hcells] at hfl
  have hmap:(ps.map fun p=>(p.1,a.eval p.2)).toList=ps.toList.map fun p=>(p.1,a.eval p.2):=by simp
  have hrun:=run_buildSlice (w:=w) hu hte hb (parts:=ps.map fun p=>(p.1,a.eval p.2)) hZ (by rw [hmap];exact hfl)
  have hel:Elems w (E.D μ st.bl true) e l cells.toList:=by
    refine (hch.weaken fun k hk=>Env.X_D hk o1 f1).elems fun j hj=>?_
    have:=writeAt_get_in news ((List.range (l.length*e.size)).map (Z[· % Z.size]!)) 0 j (by simp [hch.len]) hj
    rw [Nat.zero_add] at this
    rw [hcells]
    exact this
  obtain ⟨m2,e2⟩:=hR.mem.world (below_push w (.cells cells u))
  have h3:=heap_push_new w (.cells cells u)
  refine ⟨.slice (some ⟨w.heap.size,0,none⟩) l.length l.length,_,by unfold execOp;simp only [ho];simp [hrun],?_,hR.next m2 e2 (hR.tree.world hR.mem (below_push w _)),⟨e2,rfl,fun _ _ _=>rfl⟩⟩
  show Holds _ (E.D μ st.bl true) (.slice e) l [_]
  simp only [Holds]
  refine ⟨_,l.length,rfl,Nat.le_refl _,fun i hi=>⟨w.heap.size,0,(cells.toList.drop (i*e.size)).take e.size,rfl,⟨Or.inl (E.hN _ hR.mem.big),fun ho=>by have:=hR.mem.own_lt ho;omega⟩,(hel.mono (e2.D (E:=E))) i hi,fun j c hj=>?_⟩⟩
  obtain ⟨hj,_⟩:=getElem?_part hj
  rw [cell_row h3,Nat.zero_add];exact hj
theorem OwnHolds.plain {S D:Nat→Prop} (hS:∀ k,S k→D k):∀ {t:Ty} {x:t.den} {vs:List Value} {ms:List (Option (Nat × Nat))},(∀ k c,some (k,c)∈ms→D k)→OwnHolds w S t x vs ms→Holds w D t x vs
  | .int _,_,_,_,_,h=>h.2
  | .bool,_,_,_,_,h=>h.2
  | .str,_,_,_,_,h=>h.2
  | .err,_,_,_,_,h=>h.2
  | .adr,_,_,_,_,h=>h.2
  | .slice e,l,_,_,hm,h=>by
    obtain ⟨v,m,rfl,rfl,hr,hat⟩:=h
    simp only [Holds]
    rcases hat with ⟨rfl,h2⟩ | ⟨k,cap,vals,ty,fz,rfl,h2,h3,h4,h5,h6⟩
    · obtain ⟨rfl,h0⟩:=hr
      exact ⟨none,0,by rw [h0],Nat.le_of_eq h0,fun i hi=>by omega⟩
    · have hr:v = .slice (some ⟨k,0,none⟩) l.length cap:=hr
      subst hr
      refine ⟨_,cap,rfl,h4,fun i hi=>⟨k,0,(vals.toList.drop (i*e.size)).take e.size,rfl,hm k cap (by simp),(h6 i hi).weaken fun q hq _=>hS q hq,fun j c hj=>?_⟩⟩
      obtain ⟨hj,_⟩:=getElem?_part hj
      rw [cell_row h2,Nat.zero_add];exact hj
  | .pair a b,x,_,_,hm,h=>by
    obtain ⟨us,ws,m1,m2,rfl,rfl,h1,h2⟩:=h
    exact ⟨us,ws,rfl,OwnHolds.plain hS (fun k c hk=>hm k c (List.mem_append_left _ hk)) h1,OwnHolds.plain hS (fun k c hk=>hm k c (List.mem_append_right _ hk)) h2⟩
  | .struct b,x,_,_,hm,h=>OwnHolds.plain (t:=b) hS hm h
theorem flat_one {S:Nat→Prop} {bl:List Blk} (hS:∀ k,S k→E.D μ bl true k) {t:Ty × Bool} {x:t.1.den} {v:Value} {ms:List (Option (Nat × Nat))} (hm:∀ k c,some (k,c)∈ms→E.D μ bl true k) (h:ResHold1 w S t x v ms):RepR E w μ bl (t.1.isAgg,t.1.cells true x) v:=by
  obtain ⟨t,ow⟩:=t
  cases ow with
  | false =>
    have h:=h.2
    unfold ValHolds at h
    unfold RepR
    simp only at h ⊢
    split at h
    · next ha=>rw [ha];obtain ⟨vs,e,hh⟩:=h;exact ⟨vs,e,hh.cells' hS⟩
    · next ha=>rw [ha];exact h.cells' hS
  | true =>
    simp only [ResHold1] at h
    unfold RepR
    simp only
    split at h
    · obtain ⟨vs,e,hh⟩:=h;exact ⟨vs,e,(OwnHolds.plain hS hm hh).cells⟩
    · exact (OwnHolds.plain hS hm h).cells
theorem giveFlat_sound {S:Nat→Prop} {bl:List Blk} (hS:∀ k,S k→E.D μ bl true k):∀ {ms:List (Option (Nat × Nat))},(∀ k c,some (k,c)∈ms→E.D μ bl true k)→∀ (ts:List (Ty × Bool)) (x:denR ts) (vs:List Value),ResHold w S ts x vs ms→All2 (RepR E w μ bl) (giveFlat ts x) vs
  | ms,hm,[],_,[],h=>trivial
  | ms,hm,[],_,_ :: _,h=>h.elim
  | ms,hm,[t],x,[v],h=>⟨flat_one hS hm h,trivial⟩
  | ms,hm,[t],x,[],h=>by simp only [ResHold] at h
  | ms,hm,[t],x,_ :: _ :: _,h=>by simp only [ResHold] at h
  | ms,hm,t :: u :: r,x,[],h=>by simp only [ResHold] at h
  | ms,hm,t :: u :: r,x,v :: vs,h=>by
    obtain ⟨m1,m2,rfl,h1,h2⟩:=h
    exact ⟨flat_one hS (fun k c hk=>hm k c (List.mem_append_left _ hk)) h1,giveFlat_sound hS (fun k c hk=>hm k c (List.mem_append_right _ hk)) (u :: r) x.2 vs h2⟩
theorem evCalm_sound (hcx:cx.good P E.G) (hR:Rel E w0 μ st a w) {X:V} (h:evCalm cx o st some=some X) (next:Act→World→Prop) (Q:Exit→Act→World→Prop)
    (hn:∀ μ' v w',RepV E w' μ' st.bl X v→Rel E w0 μ' st a w'→Goes w μ st w' μ' st→next (a.put o.dst v) w'):o.wp P a w next Q:=by
  have viaPure:(∀ {σ:Type} (K':V→Option σ),evCalm cx o st K'=evPure cx o st K')→o.wp P a w next Q:=by
    intro he
    rw [he] at h
    obtain ⟨X',v,e,hrep,hrun⟩:=evPure_sound hcx.ok hR h
    cases e
    have hrun:(execOp a.eval o).run P w = .ok (.value v) w:=hrun
    unfold Oper.wp
    rw [hrun]
    exact hn μ v w hrep hR (Goes.refl _ _ _)
  cases ho:o.op
  case call c =>
    cases hc:c.callee with
    | builtin b =>
      cases b
      case len=>exact viaPure (fun K'=>by unfold evCalm;simp only [ho,hc])
      all_goals (unfold evCalm at h;simp only [ho,hc,reduceCtorEq] at h)
    | invoke x n=>unfold evCalm at h;simp only [ho,hc,reduceCtorEq] at h
    | value f =>
      cases f with
      | func f =>
        unfold evCalm at h;simp only [ho,hc] at h
        split at h
        case h_2=>cases h
        next s hs =>
        have hfr:=(cond_none h).1
        replace h:=(cond_none h).2
        split at h
        case h_2=>cases h
        next x hx =>
        have hargs:All2 (RepV E w μ st.bl) (c.args.toList.map st.get) (c.args.toList.map a.eval):=by
          have:∀ xs:List Operand,All2 (RepV E w μ st.bl) (xs.map st.get) (xs.map a.eval):=by
            intro xs
            induction xs with
            | nil=>trivial
            | cons x xs ih=>exact ⟨hR.get x,ih⟩
          exact this _
        cases hsem:s.sem x with
        | none=>rw [hsem] at h;cases h
        | some y =>
          rw [hsem] at h
          simp only [Option.bind_some,Option.some.injEq] at h
          subst h
          have hok:=hcx.call f s hs
          have hcs:Calls P f (c.args.toList.map a.eval).toArray w (CallPost E w0 μ st a w (fun X st'=>some (X,st')) (toValue (giveFlat s.res y),st)):=by
            refine (hok.calls w (hR.mem.start w hR.mem.below) _ _ x y (readArgs_sound hR.mem _ _ _ _ hx hargs (fun _ h=>h)) hsem).mono fun e w' hp=>?_
            cases e with
            | panicked c=>exact hp.elim
            | outgrown=>exact hp.elim
            | returned v =>
              obtain ⟨hb,us,ms,rfl,hn,hres,_⟩:=hp
              obtain ⟨m1,e1⟩:=hR.mem.world hb
              have hD:∀ k,w.heap.size≤k→E.D μ st.bl true k:=fun k hk=>⟨Or.inl (E.hN _ (Nat.le_trans hR.mem.big hk)),fun ho=>by have:=hR.mem.own_lt ho;omega⟩
              refine ⟨_,st,μ,rfl,toValue_rep (giveFlat_sound (fun k hk=>?_) (fun k c hk=>hD k (hn.new k c hk)) s.res y us hres),hR.next m1 e1 (hR.tree.world hR.mem hb),rfl,⟨e1,rfl,fun _ _ _=>rfl⟩⟩
              obtain ⟨h1,_⟩:=hk
              rcases h1 with h1 | ⟨h1,_⟩
              · exact hD k h1
              · rw [hfr] at h1;cases h1
          refine call_opOk ho hok.fn hc (cs:=[]) rfl (by simp) hcs next Q ?_
          intro X' st' μ' v w' e hrep hR' ht hg
          cases e
          exact hn μ' v w' hrep hR' hg
      | tmp t=>unfold evCalm at h;simp only [ho,hc,reduceCtorEq] at h
      | const t=>unfold evCalm at h;simp only [ho,hc,reduceCtorEq] at h
      | global t=>unfold evCalm at h;simp only [ho,hc,reduceCtorEq] at h
  case buildSlice t n ps =>
    unfold evCalm at h;simp only [ho] at h
    split at h
    case h_2=>cases h
    next e he =>
    obtain ⟨h1,h⟩:=cond_none h
    rw [Bool.and_eq_true,Bool.and_eq_true] at h1
    split at h
    case h_2=>cases h
    next l hl =>
    cases h
    obtain ⟨v,w',hrun,hrep,hR',hg⟩:=calm_build hcx.ok hR ho he (Nat.le_of_ble_eq_true h1.1) hl (List.isEmpty_iff.mp h1.2.1) h1.2.2
    unfold Oper.wp
    rw [hrun]
    exact hn μ v w' hrep hR' hg
  case slice t x lo hi mx =>
    cases mx with
    | some m=>unfold evCalm at h;simp only [ho,reduceCtorEq] at h
    | none=>exact viaPure (fun K'=>by unfold evCalm;simp only [ho])
  all_goals first
    | (unfold evCalm at h;simp only [ho,reduceCtorEq] at h;done)
    | exact viaPure (fun K'=>by unfold evCalm;simp only [ho])
theorem blk_mono {bl ext:List Blk} {b:Nat} {x:Blk} (h:bl[b]? = some x):(bl++ext)[b]? = some x:=by
  have hlt:b<bl.length:=by
    rcases Nat.lt_or_ge b bl.length with q | q
    · exact q
    · rw [List.getElem?_eq_none q] at h;cases h
  rw [List.getElem?_append_left hlt];exact h
theorem view_mono {bl ext:List Blk} {c:A} (h:c.view bl ≠ .undef):c.view (bl++ext)=c.view bl:=by
  cases c with
  | os b g =>
    simp only [A.view] at h ⊢
    cases hb:bl[b]? with
    | none=>rw [hb] at h;exact absurd rfl h
    | some x=>rw [blk_mono hb]
  | _=>rfl
theorem ofCells_def (need:Bool):∀ (t:Ty) (cs:List A) (x:t.den) (r:List A),t.ofCells need cs=some (x,r)→∃ pre,cs=pre++r∧∀ c∈pre,c ≠ .undef
  | .int k,cs,x,r,h=>by
    cases cs with
    | nil=>unfold Ty.ofCells at h;cases h
    | cons c cs =>
      cases c with
      | int k' n =>
        unfold Ty.ofCells at h
        split at h <;> cases h
        exact ⟨[_],rfl,fun c hc=>by simp only [List.mem_singleton] at hc;subst hc;simp⟩
      | _=>unfold Ty.ofCells at h;cases h
  | .bool,cs,x,r,h=>by
    cases cs with
    | nil=>unfold Ty.ofCells at h;cases h
    | cons c cs =>
      cases c with
      | bool b =>
        unfold Ty.ofCells at h
        cases h
        exact ⟨[_],rfl,fun c hc=>by simp only [List.mem_singleton] at hc;subst hc;simp⟩
      | _=>unfold Ty.ofCells at h;cases h
  | .str,cs,x,r,h=>by
    cases cs with
    | nil=>unfold Ty.ofCells at h;cases h
    | cons c cs =>
      cases c with
      | str b =>
        unfold Ty.ofCells at h
        cases h
        exact ⟨[_],rfl,fun c hc=>by simp only [List.mem_singleton] at hc;subst hc;simp⟩
      | _=>unfold Ty.ofCells at h;cases h
  | .adr,cs,x,r,h=>by cases cs <;> (unfold Ty.ofCells at h;cases h)
  | .err,cs,x,r,h=>by
    cases cs with
    | nil=>unfold Ty.ofCells at h;cases h
    | cons c cs =>
      cases c with
      | err b =>
        unfold Ty.ofCells at h
        cases h
        exact ⟨[_],rfl,fun c hc=>by simp only [List.mem_singleton] at hc;subst hc;simp⟩
      | _=>unfold Ty.ofCells at h;cases h
  | .slice e,cs,x,r,h=>by
    cases cs with
    | nil=>unfold Ty.ofCells at h;cases h
    | cons c cs =>
      cases c with
      | sl fr e' l =>
        unfold Ty.ofCells at h
        split at h
        · have h:=(cond_none' h).2
          cases h
          exact ⟨[_],rfl,fun c hc=>by simp only [List.mem_singleton] at hc;subst hc;simp⟩
        · cases h
      | _=>unfold Ty.ofCells at h;cases h
  | .pair a b,cs,x,r,h=>by
    unfold Ty.ofCells at h
    split at h
    case h_2=>cases h
    next y r1 h1 =>
    split at h
    case h_2=>cases h
    next z r2 h2 =>
    cases h
    obtain ⟨p1,e1,q1⟩:=ofCells_def need a cs y r1 h1
    obtain ⟨p2,e2,q2⟩:=ofCells_def need b r1 z r h2
    exact ⟨p1++p2,by rw [e1,e2,List.append_assoc],fun c hc=>(List.mem_append.mp hc).elim (q1 c) (q2 c)⟩
  | .struct b,cs,x,r,h=>by
    unfold Ty.ofCells at h
    exact ofCells_def need b cs x r h
theorem ofV_def {need:Bool} {bl:List Blk} {t:Ty} {v:V} {x:t.den} (h:t.ofV need bl v=some x):∀ c∈v.cells,c.view bl ≠ .undef:=by
  cases v with
  | «at» y =>
    unfold Ty.ofV at h
    simp only at h
    have h:=(cond_none' h).2
    split at h
    case h_2=>cases h
    next z hz =>
    obtain ⟨pre,e,q⟩:=ofCells_def need t _ _ _ hz
    rw [List.append_nil] at e
    intro c hc
    simp only [V.cells,List.mem_singleton] at hc
    subst hc
    exact q _ (by rw [← e];simp)
  | agg cs =>
    unfold Ty.ofV at h
    simp only at h
    have h:=(cond_none h).2
    split at h
    case h_2=>cases h
    next z hz =>
    obtain ⟨pre,e,q⟩:=ofCells_def need t _ _ _ hz
    rw [List.append_nil] at e
    intro c hc
    exact q _ (by rw [← e];exact List.mem_map.mpr ⟨c,hc,rfl⟩)
  | tup vs=>unfold Ty.ofV at h;cases h
theorem ofV_mono {need:Bool} {bl ext:List Blk} {t:Ty} {v:V} {x:t.den} (h:t.ofV need bl v=some x):t.ofV need (bl++ext) v=some x:=by
  have hd:=ofV_def h
  rw [← h]
  cases v with
  | «at» y=>unfold Ty.ofV;simp only [view_mono (ext:=ext) (hd y (by simp [V.cells]))]
  | agg cs =>
    have:cs.map (A.view (bl++ext))=cs.map (A.view bl):=List.map_congr_left fun c hc=>view_mono (hd c hc)
    unfold Ty.ofV;simp only [this]
  | tup vs=>rfl
theorem readArgs_mono {bl ext:List Blk}:∀ {ts:List Ty} {vs:List V} {x:denL ts},readArgs bl ts vs=some x→readArgs (bl++ext) ts vs=some x
  | [],[],x,h=>h
  | [],_ :: _,x,h=>by unfold readArgs at h;cases h
  | t :: ts,[],x,h=>by unfold readArgs at h;cases h
  | t :: ts,v :: vs,x,h=>by
    unfold readArgs at h ⊢
    split at h
    · next y ys h1 h2 =>
      rw [ofV_mono h1,readArgs_mono h2];exact h
    · cases h
theorem newAlone_mono {bl ext:List Blk}:∀ {cs:List A},(∀ c∈cs,c.view bl ≠ .undef)→newAlone (bl++ext) cs=newAlone bl cs
  | [],_=>rfl
  | c :: r,h=>by
    unfold newAlone
    rw [view_mono (h c (by simp)),newAlone_mono fun c hc=>h c (List.mem_cons_of_mem _ hc)]
theorem fillElems_def {e:Ty}:∀ {ps:List (Nat × Operand)} {i n:Nat} {l:List e.den},fillElems e st ps i n=some l→∀ p∈ps,∀ c∈(st.get p.2).cells,c.view st.bl ≠ .undef
  | [],i,n,l,h,p,hp=>by cases hp
  | (j,x) :: r,i,n,l,h,p,hp=>by
    unfold fillElems at h
    split at h
    case isFalse=>cases h
    split at h
    case h_2=>cases h
    next v vs h1 h2 =>
    rcases List.mem_cons.mp hp with rfl | hp
    · exact ofV_def h1
    · exact fillElems_def h2 p hp
theorem fillElems_mono {st':St} {e:Ty} {ext:List Blk} (hb:st'.bl=st.bl++ext):∀ {ps:List (Nat × Operand)} {i n:Nat} {l:List e.den},(∀ p∈ps,st'.get p.2=st.get p.2)→fillElems e st ps i n=some l→fillElems e st' ps i n=some l
  | [],i,n,l,hg,h=>h
  | (j,x) :: r,i,n,l,hg,h=>by
    have hx:st'.get x=st.get x:=hg (j,x) (by simp)
    unfold fillElems at h ⊢
    split at h
    case isFalse=>cases h
    next e1 =>
    rw [if_pos e1]
    split at h
    case h_2=>cases h
    next v vs h1 h2 =>
    rw [hx,hb,ofV_mono h1,fillElems_mono hb (fun p hp=>hg p (List.mem_cons_of_mem _ hp)) h2]
    exact h
theorem cellsAt_mono {bl ext:List Blk} {v:V} {x:List A × Nat} (h:cellsAt bl v=some x):cellsAt (bl++ext) v=some x:=by
  unfold cellsAt at h ⊢
  split at h
  · split at h
    · next hb=>rw [blk_mono hb];exact h
    · cases h
  · split at h
    · next hb=>rw [blk_mono hb];exact h
    · cases h
  · exact h
  · cases h
theorem sure_mono {bl ext:List Blk} {v x:V} (h:sure bl v=some x):sure (bl++ext) v=some x:=by
  unfold sure at h ⊢
  split at h
  · split at h
    · next hb=>rw [blk_mono hb];exact h
    · cases h
  · split at h
    · next hb=>rw [blk_mono hb];exact h
    · cases h
  · exact h
  · cases h
theorem lenOf_mono {bl ext:List Blk} {v:V} {x:Bool × Nat} (h:lenOf bl v=some x):lenOf (bl++ext) v=some x:=by
  unfold lenOf at h ⊢
  split at h
  · exact h
  · exact h
  · exact h
  · exact h
  · split at h
    · next hb=>rw [blk_mono hb];exact h
    · cases h
  · cases h
theorem get_ext {st:St} {ext:List Blk} (x:Operand):({ st with bl:=st.bl++ext }:St).get x=st.get x:=by cases x <;> rfl
theorem evPure_ext {ext:List Blk} {X:V} (hk:match o.op with
    | .move _ | .assign _ | .pick _ _ _ | .load _ _ | .nilCheck _ | .fieldAddr _ _ _ | .field _ _ _ | .indexAddr _ _ _ | .index _ _ _ | .binOp _ _ _ _ _ | .unOp _ _ _ | .slice _ _ _ _ none | .convert _ _ _ | .extract _ _ | .build _ _=>True
    | .call c=>c.callee = .builtin .len
    | _=>False) (h:evPure cx o st some=some X):evPure cx o { st with bl:=st.bl++ext } some=some X:=by
  cases ho:o.op <;> rw [ho] at hk <;> (try exact hk.elim)
  case load t x =>
    unfold evPure at h ⊢;simp only [ho,get_ext] at h ⊢
    split at h
    · next ty cs off h1 h2=>(try rw [h1]);rw [cellsAt_mono h2];exact h
    · cases h
  case nilCheck x =>
    unfold evPure at h ⊢;simp only [ho,get_ext] at h ⊢
    split at h
    · next v hv=>rw [sure_mono hv];exact h
    · cases h
  case fieldAddr t x f =>
    unfold evPure at h ⊢;simp only [ho,get_ext] at h ⊢
    split at h
    · next ty h1 =>
      split at h
      · next d u v h2 h3=>(try simp only [h1,h2]);simp only [sure_mono h3];exact h
      · cases h
    · cases h
  case indexAddr t x i =>
    unfold evPure at h ⊢;simp only [ho,get_ext] at h ⊢
    split at h
    · next k i' h1 =>
      split at h
      · next fr u l h2=>first | exact h | (simp only [h1,h2];exact h)
      · next b g h2 =>
        split at h
        · next g' own nf u l hb=>(try simp only [h1,h2]);simp only [blk_mono hb];exact h
        · cases h
      · cases h
    · cases h
  case convert s d x =>
    unfold evPure at h ⊢;simp only [ho,get_ext] at h ⊢
    split at h
    · next k k' h1 h2=>first | exact h | (simp only [h1,h2];exact h)
    · next h1 h2=>first | exact h | (simp only [h1,h2];exact h)
    · next h1 h2 =>
      try simp only [h1,h2]
      split at h
      · next n hx =>
        split at h
        · next fr l hv=>rw [view_mono (by rw [hv];simp),hv];exact h
        · cases h
      · cases h
    · cases h
  case slice t x lo hi mx =>
    cases mx with
    | some m=>exact hk.elim
    | none =>
    unfold evPure at h ⊢;simp only [ho,get_ext] at h ⊢
    have h1:∀ y d,loadBound ({ st with bl:=st.bl++ext }:St) y d=loadBound st y d:=fun y d=>loadBound_congr fun z e=>get_ext z
    unfold evSlice at h ⊢
    simp only [h1]
    exact h
  case build t ps =>
    unfold evPure at h ⊢;simp only [ho] at h ⊢
    have h1:∀ u cs,fillIn u ({ st with bl:=st.bl++ext }:St) ps.toList cs=fillIn u st ps.toList cs:=fun u cs=>fillIn_congr ps.toList cs fun p hp=>get_ext p.2
    simp only [h1]
    exact h
  case binOp op t x y t' =>
    unfold evPure at h ⊢;simp only [ho] at h ⊢
    unfold evBin at h ⊢
    simp only [get_ext]
    exact h
  case call c =>
    have hk:c.callee = .builtin .len:=hk
    unfold evPure at h ⊢;simp only [ho,hk] at h ⊢
    split at h
    · next x t h1 h2 =>
      rw [get_ext]
      split at h
      · next n e h3 h4=>simp only [lenOf_mono h3];first | exact h | (simp only [h4];exact h)
      · next n h3 h4=>simp only [lenOf_mono h3];first | exact h | (simp only [h4];exact h)
      · cases h
    · cases h
  all_goals (unfold evPure at h ⊢;simp only [ho,get_ext] at h ⊢;exact h)
theorem evCalm_ext {ext:List Blk} {X:V} (h:evCalm cx o st some=some X):evCalm cx o { st with bl:=st.bl++ext } some=some X:=by
  have viaPure:(match o.op with
    | .move _ | .assign _ | .pick _ _ _ | .load _ _ | .nilCheck _ | .fieldAddr _ _ _ | .field _ _ _ | .indexAddr _ _ _ | .index _ _ _ | .binOp _ _ _ _ _ | .unOp _ _ _ | .slice _ _ _ _ none | .convert _ _ _ | .extract _ _ | .build _ _=>True
    | .call c=>c.callee = .builtin .len
    | _=>False)→(∀ s:St,evCalm cx o s some=evPure cx o s some)→evCalm cx o { st with bl:=st.bl++ext } some=some X:=by
    intro hk he
    rw [he] at h ⊢
    exact evPure_ext hk h
  cases ho:o.op
  case call c =>
    cases hc:c.callee with
    | builtin b =>
      cases b
      case len=>exact viaPure (by rw [ho];exact hc) (fun K'=>by unfold evCalm;simp only [ho,hc])
      all_goals (unfold evCalm at h;simp only [ho,hc,reduceCtorEq] at h)
    | invoke x n=>unfold evCalm at h;simp only [ho,hc,reduceCtorEq] at h
    | value f =>
      cases f with
      | func f =>
        unfold evCalm at h ⊢;simp only [ho,hc] at h ⊢
        have hm:c.args.toList.map ({ st with bl:=st.bl++ext }:St).get=c.args.toList.map st.get:=List.map_congr_left fun x _=>get_ext x
        rw [hm]
        split at h
        · next s hs =>
          obtain ⟨h1,h⟩:=cond_none h
          split at h
          · next x hx=>(try rw [hs]);simp only [h1,cond_true];rw [readArgs_mono hx];exact h
          · cases h
        · cases h
      | tmp t=>unfold evCalm at h;simp only [ho,hc,reduceCtorEq] at h
      | const t=>unfold evCalm at h;simp only [ho,hc,reduceCtorEq] at h
      | global t=>unfold evCalm at h;simp only [ho,hc,reduceCtorEq] at h
  case buildSlice t n ps =>
    unfold evCalm at h ⊢;simp only [ho] at h ⊢
    split at h
    case h_2=>cases h
    next e he =>
    obtain ⟨h1,h⟩:=cond_none h
    split at h
    case h_2=>cases h
    next l hl =>
    have e1:(ps.toList.map fun p=>({ st with bl:=st.bl++ext }:St).get p.2)=ps.toList.map fun p=>st.get p.2:=List.map_congr_left fun p _=>get_ext p.2
    have e2:(ps.toList.flatMap fun p=>(({ st with bl:=st.bl++ext }:St).get p.2).cells)=ps.toList.flatMap fun p=>(st.get p.2).cells:=by
      rw [List.flatMap_def,List.flatMap_def,List.map_congr_left fun p _=>by rw [get_ext]]
    have e3:=newAlone_mono (bl:=st.bl) (ext:=ext) (cs:=ps.toList.flatMap fun p=>(st.get p.2).cells) fun c hc=>by
      obtain ⟨p,hp,hc⟩:=List.mem_flatMap.mp hc
      exact fillElems_def hl p hp c hc
    have e4:=fillElems_mono (st:=st) (st':={ st with bl:=st.bl++ext }) rfl (fun p _=>get_ext p.2) hl
    try rw [he]
    try simp only
    rw [e1,e2,e3,h1,e4]
    exact h
  case slice t x lo hi mx =>
    cases mx with
    | some m=>unfold evCalm at h;simp only [ho,reduceCtorEq] at h
    | none=>exact viaPure (by rw [ho];trivial) (fun K'=>by unfold evCalm;simp only [ho])
  all_goals first
    | exact viaPure (by rw [ho];trivial) (fun K'=>by unfold evCalm;simp only [ho])
    | (unfold evCalm at h;simp only [ho,reduceCtorEq] at h)
def Step (cx:Cx) (all:List Oper) (o:Oper) (st:St) (X:V):Prop :=
  if isAlloc o=true then X=V.undef else match o.guard with
  | none=>evCalm cx o st some=some X
  | some (j,want)=>∃ oj d,all[j]? = some oj∧oj.dst=some d∧((∃ b,st.tmps.getD d V.undef = .at (.bool b)∧(b=want→evCalm cx o st some=some X)∧(b≠want→X=V.skipped))∨(st.tmps.getD d V.undef=V.skipped∧X=V.skipped))
def Runs (cx:Cx) (all:List Oper):List Oper→St→List V→St→Prop
  | [],st,Xs,st'=>Xs=[]∧st'=st
  | o :: os,st,Xs,st'=>∃ X Ys,Xs=X :: Ys∧Step cx all o st X∧Runs cx all os (st.put o.dst X) Ys st'
theorem put_same {st:St} {d:Nat} {x:V} (h:st.tmps.getD d V.undef=x) (hx:x≠V.undef):st.put (some d) x=st:=by
  have:st.tmps.set d x=st.tmps:=by
    apply List.ext_getElem?
    intro i
    rw [List.getElem?_set]
    split
    · next e =>
      subst e
      split
      · next hlt =>
        rw [List.getD_eq_getElem?_getD,List.getElem?_eq_getElem hlt] at h
        rw [List.getElem?_eq_getElem hlt]
        exact congrArg some h.symm
      · next hlt=>rw [List.getElem?_eq_none (by omega)]
    · rfl
  unfold St.put
  simp only [this]
theorem evDraw_runs {all:List Oper} {K:St→Option ρ} {r:ρ}:∀ (rest:List Oper) (st:St),evDraw cx all rest st K=some r→∃ Xs st',Runs cx all rest st Xs st'∧K st'=some r
  | [],st,h=>⟨[],st,⟨rfl,rfl⟩,h⟩
  | o :: rest,st,h=>by
    have go:∀ (X:V),Step cx all o st X→evDraw cx all rest (st.put o.dst X) K=some r→∃ Xs st',Runs cx all (o :: rest) st Xs st'∧K st'=some r:=by
      intro X hX h
      obtain ⟨Xs,st',h1,h2⟩:=evDraw_runs rest _ h
      exact ⟨X :: Xs,st',⟨X,Xs,rfl,hX,h1⟩,h2⟩
    unfold evDraw at h
    rw [forceSt_eq] at h
    cases hal:isAlloc o with
    | true =>
      rw [hal,cond_true] at h
      exact go V.undef (by unfold Step;rw [hal,if_pos rfl]) h
    | false =>
    rw [hal,cond_false] at h
    have hal':¬ isAlloc o=true:=by rw [hal];simp
    split at h
    · next hg =>
      obtain ⟨X,h1,h2⟩:=evCalm_det h
      exact go X (by unfold Step;rw [if_neg hal',hg];exact h2 some) h1
    · next j want hg =>
      split at h
      case h_2=>cases h
      next oj hj =>
      split at h
      case h_2=>cases h
      next d hd =>
      split at h
      case h_3=>cases h
      case h_2 hb=>exact go V.skipped (by unfold Step;rw [if_neg hal',hg];exact ⟨oj,d,hj,hd,Or.inr ⟨hb,rfl⟩⟩) h
      next b hb =>
      have same:=put_same hb (by simp)
      cases b <;> cases want <;> simp only [cond_true,cond_false] at h <;> rw [same] at h
      · obtain ⟨X,h1,h2⟩:=evCalm_det h
        exact go X (by unfold Step;rw [if_neg hal',hg];exact ⟨oj,d,hj,hd,Or.inl ⟨false,hb,fun _=>h2 some,fun e=>absurd rfl e⟩⟩) h1
      · exact go V.skipped (by unfold Step;rw [if_neg hal',hg];exact ⟨oj,d,hj,hd,Or.inl ⟨false,hb,(fun e=>by cases e),fun _=>rfl⟩⟩) h
      · exact go V.skipped (by unfold Step;rw [if_neg hal',hg];exact ⟨oj,d,hj,hd,Or.inl ⟨true,hb,(fun e=>by cases e),fun _=>rfl⟩⟩) h
      · obtain ⟨X,h1,h2⟩:=evCalm_det h
        exact go X (by unfold Step;rw [if_neg hal',hg];exact ⟨oj,d,hj,hd,Or.inl ⟨true,hb,fun _=>h2 some,fun e=>absurd rfl e⟩⟩) h1
end
end Go.Proofs.YtnohkcklakipoaaGreatDoor.Ev
namespace Go.Proofs.YtnohkcklakipoaaGreatDoor.Ev
open Go Go.RowKit
set_option linter.unusedVariables false
set_option linter.unusedSimpArgs false
variable {ρ:Type}
section
variable {P:Program} {cx:Cx} {E:Env} {w0 w:World} {μ:Lie} {st:St} {a:Act}
structure Fit (all:List Oper) (st:St) (Xs:List V) (L:Nat→Bool) (s:St):Prop where
  bl:s.bl=st.bl
  lock:s.lock=st.lock
  len:s.tmps.length=st.tmps.length
  get:∀ t,t<st.tmps.length→s.tmps[t]? = (match writer all t with
    | some j=>if L j=true then Xs[j]? else st.tmps[t]?
    | none=>st.tmps[t]?)
theorem Fit.same {all:List Oper} {Xs:List V} {L:Nat→Bool} {s s':St} (h:Fit all st Xs L s) (h':Fit all st Xs L s'):s=s':=by
  have:s.tmps=s'.tmps:=by
    apply List.ext_getElem?
    intro t
    rcases Nat.lt_or_ge t st.tmps.length with q | q
    · rw [h.get t q,h'.get t q]
    · rw [List.getElem?_eq_none (by rw [h.len];exact q),List.getElem?_eq_none (by rw [h'.len];exact q)]
  cases s;cases s'
  have h1:=h.bl;have h2:=h'.bl;have h3:=h.lock;have h4:=h'.lock
  simp only at this h1 h2 h3 h4
  subst this h1 h3
  rw [h2,h4]
theorem writer_some {all:List Oper} {t j:Nat} (h:writer all t=some j):∃ o,all[j]? = some o∧o.dst=some t:=by
  unfold writer at h
  rw [List.findIdx?_eq_some_iff_getElem] at h
  obtain ⟨hj,h1,_⟩:=h
  exact ⟨all[j],List.getElem?_eq_getElem hj,by simpa using h1⟩
theorem Fit.congr {all:List Oper} {Xs:List V} {L L':Nat→Bool} {s:St} (h:Fit all st Xs L s) (hL:∀ j,j<all.length→L j=L' j):Fit all st Xs L' s:=by
  refine ⟨h.bl,h.lock,h.len,fun t ht=>?_⟩
  rw [h.get t ht]
  split
  · next j hj =>
    obtain ⟨o,ho,_⟩:=writer_some hj
    rw [hL j (lt_of_get' ho)]
  · rfl
where
  lt_of_get' {α:Type} {l:List α} {i:Nat} {x:α} (h:l[i]? = some x):i<l.length:=by
    rcases Nat.lt_or_ge i l.length with q | q
    · exact q
    · rw [List.getElem?_eq_none q] at h;cases h
theorem Fit.put {all:List Oper} {Xs:List V} {L:Nat→Bool} {s:St} (h:Fit all st Xs L s) {i:Nat} {o:Oper} {X:V} (ho:all[i]? = some o) (hX:Xs[i]? = some X) (hw:∀ d,o.dst=some d→writer all d=some i) :
    Fit all st Xs (fun j=>L j||j == i) (s.put o.dst X):=by
  cases hd:o.dst with
  | none =>
    refine ⟨h.bl,h.lock,h.len,fun t ht=>?_⟩
    show s.tmps[t]? = _
    rw [h.get t ht]
    split
    · next j hj =>
      obtain ⟨o',ho',hd'⟩:=writer_some hj
      have:j≠i:=by rintro rfl;rw [ho] at ho';cases ho';rw [hd] at hd';cases hd'
      have e:(j == i)=false:=by simpa using this
      simp only [e,Bool.or_false]
    · rfl
  | some d =>
    have hwd:=hw d hd
    refine ⟨h.bl,h.lock,by simpa [St.put] using h.len,fun t ht=>?_⟩
    show (s.tmps.set d X)[t]? = _
    by_cases e:t=d
    · subst e
      rw [hwd]
      simp only [beq_self_eq_true,Bool.or_true,if_true]
      rw [List.getElem?_set_self (by rw [h.len];exact ht),hX]
    · rw [List.getElem?_set_ne (by omega),h.get t ht]
      split
      · next j hj =>
        obtain ⟨o',ho',hd'⟩:=writer_some hj
        have:j≠i:=by rintro rfl;rw [ho] at ho';cases ho';rw [hd] at hd';cases hd';exact e rfl
        have e:(j == i)=false:=by simpa using this
        simp only [e,Bool.or_false]
      · rfl
structure DrawOk (all:List Oper):Prop where
  dst:∀ (i:Nat) (o:Oper),all[i]? = some o→∀ d,o.dst=some d→writer all d=some i
  back:∀ (i:Nat) (o:Oper),all[i]? = some o→∀ e∈o.after.toList,Region.binds .any e=true→e.on<i
  reads:∀ (i:Nat) (o:Oper),all[i]? = some o→∀ t∈looked o,∀ j,writer all t=some j→j∈edges o∨∃ oj,all[j]? = some oj∧i∈edges oj
  guard:∀ (i:Nat) (o:Oper),all[i]? = some o→∀ j want,o.guard=some (j,want)→j∈edges o
theorem allFrom_get {α:Type} {p:Nat→α→Bool}:∀ (l:List α) (n:Nat),allFrom p l n=true→∀ (i:Nat) (x:α),l[i]? = some x→p (n+i) x=true
  | [],n,h,i,x,hx=>by simp at hx
  | y :: l,n,h,i,x,hx=>by
    simp only [allFrom,Bool.and_eq_true] at h
    cases i with
    | zero=>simp only [List.getElem?_cons_zero,Option.some.injEq] at hx;subst hx;exact h.1
    | succ i =>
      have:=allFrom_get l (n+1) h.2 i x (by simpa using hx)
      rwa [show n+1+i=n+(i+1) by omega] at this
theorem drawCore_sound {all:List Oper} (h:drawCore all=true):DrawOk all:=by
  unfold drawCore at h
  have key:∀ (i:Nat) (o:Oper),all[i]? = some o→((match o.dst with | some d=>writer all d == some i | none=>true)=true∧(o.after.toList.all fun e=>!Region.binds .any e||Nat.blt e.on i)=true ∧
      ((looked o).all fun t=>match writer all t with | some j=>(edges o).contains j||(match all[j]? with | some oj=>(edges oj).contains i | none=>false) | none=>true)=true)∧(match o.guard with | some (j,_)=>(edges o).contains j | none=>true)=true:=by
    intro i o ho
    have:=allFrom_get all 0 h i o ho
    rw [Nat.zero_add] at this
    simp only [Bool.and_eq_true] at this
    exact ⟨⟨this.1.1.1,this.1.1.2,this.1.2⟩,this.2⟩
  refine ⟨fun i o ho d hd=>?_,fun i o ho e he hbnd=>?_,fun i o ho t ht j hj=>?_,fun i o ho j want hg=>?_⟩
  · have:=(key i o ho).1.1
    rw [hd] at this
    simpa using this
  · have:=List.all_eq_true.mp (key i o ho).1.2.1 e he
    rw [hbnd] at this
    exact Nat.le_of_ble_eq_true this
  · have:=List.all_eq_true.mp (key i o ho).1.2.2 t ht
    rw [hj] at this
    simp only [Bool.or_eq_true] at this
    rcases this with h | h
    · exact Or.inl (by simpa using h)
    · split at h
      · next oj ho'=>exact Or.inr ⟨oj,ho',by simpa using h⟩
      · cases h
  · have:=(key i o ho).2
    rw [hg] at this
    simpa using this
theorem drawOk_sound {all:List Oper} (h:drawOk all=true):DrawOk all:=drawCore_sound ((Bool.and_eq_true _ _).mp h).1
theorem drawOk_allocs {all:List Oper} (h:drawOk all=true):allocsOk all=true:=((Bool.and_eq_true _ _).mp h).2
theorem lt_get {α:Type} {l:List α} {i:Nat} {x:α} (h:l[i]? = some x):i<l.length:=by
  rcases Nat.lt_or_ge i l.length with q | q
  · exact q
  · rw [List.getElem?_eq_none q] at h;cases h
theorem runs_steps {all:List Oper} (hd:DrawOk all) {Xs:List V} {st':St} {m:Nat} (hm:m≤all.length):∀ (rest:List Oper) (i:Nat) (s:St) (Ys:List V),(all.take m).drop i=rest→i≤m→Xs.drop i=Ys→Fit all st Xs (fun j=>decide (j<i)) s→Runs cx all rest s Ys st' →
    (∀ (k:Nat) (o:Oper),i≤k→k<m→all[k]? = some o→∃ s' X,Fit all st Xs (fun j=>decide (j<k)) s'∧Xs[k]? = some X∧Step cx all o s' X)∧Fit all st Xs (fun j=>decide (j<m)) st'
  | [],i,s,Ys,h1,hi,h2,hf,hr=>by
    obtain ⟨_,rfl⟩:=hr
    have hl:m≤i:=by
      have:=congrArg List.length h1
      simp at this;omega
    refine ⟨fun k o hk hkm ho=>by omega,?_⟩
    have:i=m:=by omega
    subst this
    exact hf
  | o :: rest,i,s,Ys,h1,hi,h2,hf,hr=>by
    obtain ⟨X,Zs,rfl,hs,hr⟩:=hr
    have hot:(all.take m)[i]? = some o:=by
      have:=congrArg (fun l=>l[0]?) h1
      simpa using this
    have him:i<m:=by
      have:=lt_get hot
      simp at this;omega
    have ho:all[i]? = some o:=by rw [List.getElem?_take_of_lt him] at hot;exact hot
    have hX:Xs[i]? = some X:=by
      have:=congrArg (fun l=>l[0]?) h2
      simpa using this
    have hp:=(hf.put ho hX (hd.dst i o ho)).congr (L':=fun j=>decide (j<i+1)) fun j _=>by
      rw [Bool.eq_iff_iff]
      simp only [Bool.or_eq_true,decide_eq_true_eq,beq_iff_eq]
      omega
    obtain ⟨p1,p2⟩:=runs_steps hd hm rest (i+1) _ Zs (by have:=congrArg List.tail h1;simpa using this) him (by have:=congrArg List.tail h2;simpa using this) hp hr
    refine ⟨fun k o' hk hkm ho'=>?_,p2⟩
    rcases Nat.lt_or_ge i k with q | q
    · exact p1 k o' q hkm ho'
    · have:k=i:=by omega
      subst this
      rw [ho] at ho'
      cases ho'
      exact ⟨s,X,hf,hX,hs⟩
def Closed (all:List Oper) (L:Nat→Bool):Prop:=∀ (j:Nat) (oj:Oper),all[j]? = some oj→L j=true→∀ e∈edges oj,L e=true
theorem maskOf_bit {acc:List Nat} {b:Nat}:∀ (es:List Nat),(maskOf acc es).testBit b=true→∃ e∈es,b=e∨(acc.getD e 0).testBit b=true
  | [],h=>by simp [maskOf] at h
  | e :: r,h=>by
    simp only [maskOf,Nat.testBit_or,Bool.or_eq_true] at h
    rcases h with (h | h) | h
    · rw [Nat.testBit_two_pow] at h
      exact ⟨e,by simp,Or.inl (by simpa using (of_decide_eq_true h).symm)⟩
    · exact ⟨e,by simp,Or.inr h⟩
    · obtain ⟨e',he,h⟩:=maskOf_bit r h
      exact ⟨e',List.mem_cons_of_mem _ he,h⟩
def Sure (all:List Oper) (i k:Nat):Prop:=∀ (L:Nat→Bool) (o:Oper),Closed all L→all[i]? = some o→(∀ e∈edges o,L e=true)→∀ b,k.testBit b=true→L b=true
theorem masks_sure {all:List Oper} (hd:DrawOk all):∀ (rest:List Oper) (acc:List Nat),all.drop acc.length=rest→(∀ (i k:Nat),acc[i]? = some k→Sure all i k) →
    (masks rest acc).length=acc.length+rest.length∧∀ (i k:Nat),(masks rest acc)[i]? = some k→Sure all i k
  | [],acc,h,ha=>⟨by simp [masks],ha⟩
  | o :: rest,acc,h,ha=>by
    have ho:all[acc.length]? = some o:=by
      have:=congrArg (fun l=>l[0]?) h
      simpa using this
    have hs:Sure all acc.length (maskOf acc (edges o)):=by
      intro L o' hc ho' hl b hb
      rw [ho] at ho'
      cases ho'
      obtain ⟨e,he,hb⟩:=maskOf_bit _ hb
      rcases hb with rfl | hb
      · exact hl _ he
      · cases hq:acc[e]? with
        | none =>
          rw [List.getD_eq_getElem?_getD,hq] at hb
          simp at hb
        | some k =>
          rw [List.getD_eq_getElem?_getD,hq] at hb
          have hlt:=lt_get hq
          have hlen:e<all.length:=by have:=lt_get ho;omega
          exact ha e k hq L _ hc (List.getElem?_eq_getElem hlen) (hc e _ (List.getElem?_eq_getElem hlen) (hl e he)) b hb
    obtain ⟨p1,p2⟩:=masks_sure hd rest (acc++[maskOf acc (edges o)]) (by have:=congrArg List.tail h;simpa using this) (fun i k hi=>by
      rcases Nat.lt_or_ge i acc.length with q | q
      · rw [List.getElem?_append_left q] at hi;exact ha i k hi
      · rw [List.getElem?_append_right q] at hi
        have hz:i-acc.length=0:=by
          rcases Nat.eq_zero_or_pos (i-acc.length) with z | z
          · exact z
          · rw [List.getElem?_eq_none (by simp;omega)] at hi;cases hi
        rw [hz] at hi
        simp only [List.getElem?_cons_zero,Option.some.injEq] at hi
        subst hi
        have:i=acc.length:=by omega
        subst this
        exact hs)
    refine ⟨?_,p2⟩
    show (masks rest (acc++[maskOf acc (edges o)])).length=_
    rw [p1]
    simp
    omega
theorem tailOf_get:∀ (ks:List Nat) (i:Nat),i≤tailOf ks i∧tailOf ks i≤i+ks.length∧∀ j,tailOf ks i≤i+j→j<ks.length→ks[j]? = some (2 ^ (i+j)-1)
  | [],i=>⟨Nat.le_refl _,Nat.le_refl _,fun j _ h=>by simp at h⟩
  | k :: r,i=>by
    obtain ⟨h1,h2,h3⟩:=tailOf_get r (i+1)
    unfold tailOf
    cases hc:k == 2 ^ i-1&&Nat.beq (tailOf r (i+1)) (i+1) with
    | true =>
      rw [Bool.and_eq_true] at hc
      have e1:k=2 ^ i-1:=by simpa using hc.1
      have e2:tailOf r (i+1)=i+1:=Nat.eq_of_beq_eq_true hc.2
      simp only [cond_true]
      refine ⟨Nat.le_refl _,by omega,fun j hj hjl=>?_⟩
      cases j with
      | zero=>simp [e1]
      | succ j =>
        have:=h3 j (by omega) (by simpa using hjl)
        rw [List.getElem?_cons_succ,this]
        congr 3;omega
    | false =>
      simp only [cond_false]
      refine ⟨by omega,by simp only [List.length_cons];omega,fun j hj hjl=>?_⟩
      cases j with
      | zero=>omega
      | succ j =>
        have:=h3 j (by omega) (by simpa using hjl)
        rw [List.getElem?_cons_succ,this]
        congr 3;omega
theorem tailAt_le {all:List Oper} (hd:DrawOk all):tailAt all≤all.length:=by
  obtain ⟨h1,_⟩:=masks_sure hd all [] rfl (fun i k h=>by simp at h)
  have:=(tailOf_get (masks all []) 0).2.1
  rw [h1] at this
  simpa [tailAt] using this
theorem tail_all {all:List Oper} (hd:DrawOk all) {L:Nat→Bool} (hc:Closed all L) {i:Nat} {o:Oper} (ho:all[i]? = some o) (hm:tailAt all≤i) (hl:∀ e∈edges o,L e=true):∀ b,b<i→L b=true:=by
  obtain ⟨h1,h2⟩:=masks_sure hd all [] rfl (fun i k h=>by simp at h)
  have hi:=lt_get ho
  have:=(tailOf_get (masks all []) 0).2.2 i (by rw [Nat.zero_add];exact hm) (by rw [h1];simpa using hi)
  rw [Nat.zero_add] at this
  intro b hb
  exact h2 i _ this L o hc ho hl b (by rw [Nat.testBit_two_pow_sub_one];simpa using hb)
inductive Al (cx:Cx) (all:List Oper):Option (Nat × Nat × Ty)→Prop
  | none (h:allocAt all=none):Al cx all none
  | some (i0:Nat) (oa:Oper) (tid:TypeId) (d:Nat) (t:Ty) (h:allocAt all=some i0) (h1:all[i0]? = some oa) (h2:oa.op = .alloc tid) (h3:oa.dst=some d) (h4:cx.ty tid=some t):Al cx all (some (i0,d,t))
def fin (al:Option (Nat × Nat × Ty)) (s:St):St :=
  match al with
  | none=>s
  | some (_,d,t)=>grownSt t d s
def Cur (al:Option (Nat × Nat × Ty)) (L:Nat→Bool) (s:St):St :=
  match al with
  | none=>s
  | some (i0,d,t)=>bif L i0 then grownSt t d s else s
theorem evGrow_some {all:List Oper} {K:St→Option ρ} {r:ρ} (h:evGrow cx all st K=some r):∃ al,Al cx all al∧K (fin al st)=some r:=by
  unfold evGrow at h
  split at h
  · next hn=>exact ⟨none,.none hn,h⟩
  · next i0 hi =>
    split at h
    case h_2=>cases h
    next oa ho =>
    split at h
    case h_2=>cases h
    next tid ht =>
    split at h
    case h_2=>cases h
    next d t hd hty=>exact ⟨_,.some i0 oa tid d t hi ho ht hd hty,h⟩
theorem al_none {all:List Oper} (h:allocAt all=none) {i:Nat} {o:Oper} (ho:all[i]? = some o) (hi:i<tailAt all):isAlloc o=false:=by
  unfold allocAt at h
  rw [List.findIdx?_eq_none_iff] at h
  exact h o (List.mem_of_getElem? (i:=i) (by rw [List.getElem?_take_of_lt hi];exact ho))
theorem al_some {all:List Oper} (hok:allocsOk all=true) {i0 d:Nat} {oa:Oper} (h:allocAt all=some i0) (ho:all[i0]? = some oa) (hdst:oa.dst=some d) :
    i0<tailAt all∧isAlloc oa=true∧oa.guard=none∧(∀ (i:Nat) (o:Oper),i<tailAt all→all[i]? = some o→i≠i0→isAlloc o=false∧d ∉ looked o) ∧
      (∀ (i:Nat) (o:Oper) j want,all[i]? = some o→o.guard=some (j,want)→j≠i0):=by
  unfold allocsOk at hok
  rw [h] at hok
  simp only [ho,hdst,Bool.and_eq_true] at hok
  obtain ⟨⟨h1,h2⟩,h3⟩:=hok
  have hf:=h
  unfold allocAt at hf
  rw [List.findIdx?_eq_some_iff_getElem] at hf
  obtain ⟨hj,ha,_⟩:=hf
  have hj':i0<tailAt all:=by simp at hj;omega
  refine ⟨hj',?_,by simpa using h1,fun i o hi hio hne=>?_,fun i o j want hio hg=>?_⟩
  · have:(all.take (tailAt all))[i0]? = some oa:=by rw [List.getElem?_take_of_lt hj'];exact ho
    rw [List.getElem?_eq_getElem hj] at this
    rw [← Option.some.inj this];exact ha
  · have:=allFrom_get _ 0 h2 i o (by rw [List.getElem?_take_of_lt hi];exact hio)
    rw [Nat.zero_add] at this
    have hb:(i == i0)=false:=by simpa using hne
    rw [hb,Bool.false_or,Bool.and_eq_true] at this
    exact ⟨by simpa using this.1,by simpa using this.2⟩
  · have:=List.all_eq_true.mp h3 o (List.mem_of_getElem? hio)
    rw [hg] at this
    simpa using this
theorem cur_put {al:Option (Nat × Nat × Ty)} {L L':Nat→Bool} {s:St} {d':Option Nat} {X:V} (hL:∀ i0 d t,al=some (i0,d,t)→L' i0=L i0∧d'≠some d):(Cur al L s).put d' X=Cur al L' (s.put d' X):=by
  cases al with
  | none=>rfl
  | some x =>
    obtain ⟨i0,d,t⟩:=x
    obtain ⟨e,hne⟩:=hL i0 d t rfl
    simp only [Cur,e]
    cases L i0 with
    | false=>rfl
    | true =>
      simp only [cond_true]
      cases d' with
      | none=>rfl
      | some d' =>
        have hne:d≠d':=fun e=>hne (by rw [e])
        unfold grownSt St.put
        simp only
        rw [List.set_comm _ _ hne]
theorem cur_tmp {al:Option (Nat × Nat × Ty)} {L:Nat→Bool} {s:St} {u:Nat} (h:∀ i0 d t,al=some (i0,d,t)→u≠d):(Cur al L s).tmps.getD u V.undef=s.tmps.getD u V.undef:=by
  cases al with
  | none=>rfl
  | some x =>
    obtain ⟨i0,d,t⟩:=x
    have hne:=h i0 d t rfl
    simp only [Cur]
    cases L i0 with
    | false=>rfl
    | true =>
      simp only [cond_true,grownSt,St.put]
      rw [List.getD_eq_getElem?_getD,List.getD_eq_getElem?_getD,List.getElem?_set_ne (Ne.symm hne)]
theorem looked_mem' {o:Oper} {t:Nat} (h:Operand.tmp t∈o.op.operands):t∈looked o:=by
  unfold looked
  rw [List.mem_filterMap]
  exact ⟨.tmp t,by simpa using h,rfl⟩
theorem cur_calm {al:Option (Nat × Nat × Ty)} {L:Nat→Bool} {s:St} {o:Oper} {X:V} (h:∀ i0 d t,al=some (i0,d,t)→d ∉ looked o) (hc:evCalm cx o s some=some X):evCalm cx o (Cur al L s) some=some X:=by
  cases al with
  | none=>exact hc
  | some x =>
    obtain ⟨i0,d,t⟩:=x
    have hne:=h i0 d t rfl
    simp only [Cur]
    cases L i0 with
    | false=>exact hc
    | true =>
      simp only [cond_true]
      rw [← evCalm_ext (ext:=extOf t s.bl.length) hc]
      refine evCalm_congr (st:={ s with bl:=s.bl++extOf t s.bl.length }) (st':=grownSt t d s) rfl fun x hx=>?_
      cases x with
      | tmp u =>
        have:d≠u:=fun e=>hne (e ▸ looked_mem' hx)
        show ((s.tmps.set d _).getD u V.undef)=s.tmps.getD u V.undef
        rw [List.getD_eq_getElem?_getD,List.getD_eq_getElem?_getD,List.getElem?_set_ne this]
      | const v=>rfl
      | global g=>rfl
      | func f=>rfl
theorem looked_mem {o:Oper} {t:Nat} (h:Operand.tmp t∈o.op.operands):t∈looked o:=by
  unfold looked
  rw [List.mem_filterMap]
  exact ⟨.tmp t,by simpa using h,rfl⟩
theorem edges_mem {o:Oper} {j:Nat} (h:j∈edges o):∃ e∈o.after.toList,Region.binds .any e=true∧e.on=j:=by
  unfold edges at h
  rw [List.mem_filterMap] at h
  obtain ⟨e,he,h⟩:=h
  cases hb:Region.binds .any e with
  | true=>rw [hb] at h;simp only [cond_true,Option.some.injEq] at h;exact ⟨e,he,hb,h⟩
  | false=>rw [hb] at h;cases h
theorem opsDst_get:∀ {os:List Oper} {i:Nat} {o:Oper} {d:Nat},os[i]? = some o→o.dst=some d→d∈opsDst os
  | [],i,o,d,h,_=>by simp at h
  | x :: os,0,o,d,h,hd=>by
    simp only [List.getElem?_cons_zero,Option.some.injEq] at h
    subst h
    simp [opsDst,hd]
  | x :: os,i+1,o,d,h,hd=>by
    have:=opsDst_get (os:=os) (i:=i) (by simpa using h) hd
    unfold opsDst
    split
    · exact List.mem_cons_of_mem _ this
    · exact this
def unlisted (n:Nat) (listed:Array Bool):List Nat:=(List.range n).filter fun i=>!listed.getD i true
theorem unlisted_less {n i:Nat} {listed:Array Bool} (hn:listed.size=n) (hi:i<n) (hu:listed.getD i true=false):(unlisted n (listed.setIfInBounds i true)).length<(unlisted n listed).length:=by
  have e:unlisted n (listed.setIfInBounds i true)=(unlisted n listed).filter fun j=>j != i:=by
    unfold unlisted
    rw [List.filter_filter]
    apply List.filter_congr
    intro j hj
    have hjn:j<n:=by simpa using hj
    by_cases q:j=i
    · subst q
      simp [Array.getD_eq_getD_getElem?,Array.getElem?_setIfInBounds,hn,hi]
    · have:(j != i)=true:=by simpa using q
      rw [this,Bool.true_and]
      simp [Array.getD_eq_getD_getElem?,Array.getElem?_setIfInBounds_ne (Ne.symm q)]
  rw [e,List.length_filter_lt_length_iff_exists]
  exact ⟨i,by unfold unlisted;rw [List.mem_filter];exact ⟨by simpa using hi,by rw [hu];rfl⟩,by simp⟩
theorem unlisted_from {n m:Nat}:((List.range n).filter fun i=>!decide (i<m)).length=n-m:=by
  induction n with
  | zero=>simp
  | succ n ih =>
    rw [List.range_succ,List.filter_append,List.length_append,ih]
    by_cases h:n<m
    · simp [h];omega
    · simp [h];omega
theorem getD_set {n i:Nat} {listed:Array Bool} (hn:listed.size=n) (hi:i<n) (j:Nat):(listed.setIfInBounds i true).getD j false=(listed.getD j false||j == i):=by
  by_cases q:j=i
  · subst q
    simp [Array.getD_eq_getD_getElem?,Array.getElem?_setIfInBounds,hn,hi]
  · have:(j == i)=false:=by simpa using q
    rw [this,Bool.or_false]
    simp [Array.getD_eq_getD_getElem?,Array.getElem?_setIfInBounds_ne (Ne.symm q)]
theorem getD_true {listed:Array Bool} {i:Nat} (hi:i<listed.size):listed.getD i true=listed.getD i false:=by
  rw [Array.getD_eq_getD_getElem?,Array.getD_eq_getD_getElem?,Array.getElem?_eq_getElem hi];rfl
theorem ready_iff {ops:Array Oper} {listed:Array Bool} {i:Nat} (hn:listed.size=ops.size):i∈Region.ready .any ops listed↔∃ o,ops.toList[i]? = some o∧listed.getD i false=false∧∀ e∈edges o,listed.getD e false=true:=by
  unfold Region.ready
  rw [List.mem_filter]
  constructor
  · rintro ⟨hin,hi⟩
    have hin:i<ops.size:=by simpa using hin
    have hoi:ops[i]? = some ops[i]:=Array.getElem?_eq_getElem hin
    rw [hoi,getD_true (by omega)] at hi
    simp only [Option.map_some,Option.getD_some,Bool.and_eq_true,Bool.not_eq_true'] at hi
    obtain ⟨hul,hdeps⟩:=hi
    refine ⟨ops[i],by rw [Array.getElem?_toList];exact hoi,hul,fun j hj=>?_⟩
    obtain ⟨e,he,hb,rfl⟩:=edges_mem hj
    rw [Array.all_eq_true'] at hdeps
    have:=hdeps e (by simpa using he)
    rw [hb] at this
    simpa using this
  · rintro ⟨o,ho,hul,hdeps⟩
    have hin:i<ops.size:=by have:=lt_get ho;simpa using this
    rw [Array.getElem?_toList] at ho
    refine ⟨by simpa using hin,?_⟩
    rw [ho,getD_true (by omega),hul]
    simp only [Option.map_some,Option.getD_some,Bool.not_false,Bool.true_and]
    rw [Array.all_eq_true']
    intro e he
    cases hb:Region.binds .any e with
    | false=>simp
    | true =>
      have:e.on∈edges o:=by
        unfold edges
        rw [List.mem_filterMap]
        exact ⟨e,by simpa using he,by rw [hb];rfl⟩
      rw [hdeps _ this]
      simp
theorem closed_set {ops:Array Oper} {listed:Array Bool} {i:Nat} {o:Oper} (hn:listed.size=ops.size) (hin:i<ops.size) (hoi:ops.toList[i]? = some o) (hdep:∀ e∈edges o,listed.getD e false=true)
    (hcl:Closed ops.toList fun j=>listed.getD j false):Closed ops.toList fun j=>(listed.setIfInBounds i true).getD j false:=by
  intro j oj hoj hlj e he
  simp only at hlj ⊢
  rw [getD_set hn hin] at hlj ⊢
  rw [Bool.or_eq_true] at hlj
  rcases hlj with h | h
  · have:=hcl j oj hoj h e he
    simp only at this
    rw [this,Bool.true_or]
  · have:j=i:=by simpa using h
    subst this
    rw [hoi] at hoj
    cases hoj
    rw [hdep e he,Bool.true_or]
theorem tail_any {ops:Array Oper} (hd:DrawOk ops.toList) {Q:Exit→Act→World→Prop}:∀ (n fuel j:Nat) (listed:Array Bool) (a:Act) (w:World),listed.size=ops.size→(∀ i,i<ops.size→listed.getD i false=decide (i<j))→Closed ops.toList (fun j=>listed.getD j false) →
    tailAt ops.toList≤j→j+n=ops.size→n≤fuel→wpOps P ops Q (List.range' j n) a w→wpAny P .any ops Q fuel listed a w:=by
  intro n
  induction n with
  | zero =>
    intro fuel j listed a w hn hl hcl hm hj hf h
    have hr:Region.ready .any ops listed=[]:=by
      rw [List.eq_nil_iff_forall_not_mem]
      intro i hi
      obtain ⟨o,ho,hul,_⟩:=(ready_iff hn).mp hi
      have hin:i<ops.size:=by have:=lt_get ho;simpa using this
      rw [hl i hin] at hul
      have:=of_decide_eq_false hul
      omega
    exact wpAny_done hr h fuel
  | succ n ih =>
    intro fuel j listed a w hn hl hcl hm hj hf h
    cases fuel with
    | zero=>omega
    | succ fuel =>
      have hjn:j<ops.size:=by omega
      have only:∀ i∈Region.ready .any ops listed,i=j:=by
        intro i hi
        obtain ⟨o,ho,hul,hdep⟩:=(ready_iff hn).mp hi
        have hin:i<ops.size:=by have:=lt_get ho;simpa using this
        rw [hl i hin] at hul
        have hge:=of_decide_eq_false hul
        rcases Nat.lt_or_ge j i with q | q
        · have:=tail_all hd hcl ho (by omega) hdep j q
          rw [hl j hjn] at this
          have:=of_decide_eq_true this
          omega
        · omega
      have hoj:ops[j]? = some ops[j]:=Array.getElem?_eq_getElem hjn
      have hoj':ops.toList[j]? = some ops[j]:=by rw [Array.getElem?_toList];exact hoj
      have hdep:∀ e∈edges ops[j],listed.getD e false=true:=by
        intro e he
        obtain ⟨e',he',hbnd,rfl⟩:=edges_mem he
        have hlt:=hd.back j ops[j] hoj' e' he' hbnd
        rw [hl _ (by omega)]
        simpa using hlt
      have hin:j∈Region.ready .any ops listed:=(ready_iff hn).mpr ⟨_,hoj',by rw [hl j hjn];simp,hdep⟩
      refine ⟨fun hr=>absurd hin (by rw [hr];simp),fun i hi=>?_⟩
      have:=only i hi
      subst this
      rw [List.range'_succ,wpOps_cons] at h
      refine wpOp_mono (fun a w h=>ih fuel (i+1) _ a w (by simpa using hn) (fun k hk=>?_) (closed_set hn hjn hoj' hdep hcl) (by omega) (by omega) (by omega) h) h
      rw [getD_set hn hjn,hl k hk,Bool.eq_iff_iff]
      simp only [Bool.or_eq_true,decide_eq_true_eq,beq_iff_eq]
      omega
theorem draw_sound (hcx:cx.good P E.G) {id:Nat} {ops:Array Oper} (hok:drawOk ops.toList=true) {Xs:List V} {st':St} {al:Option (Nat × Nat × Ty)} (hal:Al cx ops.toList al) (hruns:Runs cx ops.toList (ops.toList.take (tailAt ops.toList)) st Xs st') (hR:Rel E w0 μ st a w) {Q:Exit→Act→World→Prop}
    (hQ:∀ μ' a' w',Rel E w0 μ' (fin al st') a' w'→(∀ t,t ∉ opsDst ops.toList→a'.tmps[t]? = a.tmps[t]?)→Goes w μ st w' μ' (fin al st')→wpOps P ops Q (List.range' (tailAt ops.toList) (ops.size-tailAt ops.toList)) a' w'):(Code.region id ops true).wp P Q a w:=by
  have hd:=drawOk_sound hok
  have hmle:=tailAt_le hd
  generalize hm:tailAt ops.toList=m at *
  obtain ⟨hsteps,hfin⟩:=runs_steps (cx:=cx) hd hmle (ops.toList.take m) 0 st Xs rfl (Nat.zero_le _) rfl ⟨rfl,rfl,rfl,fun t ht=>by
    split
    · simp
    · rfl⟩ hruns
  have hsize:ops.toList.length=ops.size:=by simp
  have hfacts:∀ i0 d t,al=some (i0,d,t)→i0<m∧(∀ (i:Nat) (o:Oper),i<m→ops.toList[i]? = some o→i≠i0→d ∉ looked o)∧(∀ (i:Nat) (o:Oper) j want,ops.toList[i]? = some o→o.guard=some (j,want)→j≠i0)∧writer ops.toList d=some i0:=by
    intro i0 d t e
    cases hal with
    | none h=>cases e
    | some i0' oa tid d' t' h h1 h2 h3 h4 =>
      cases e
      obtain ⟨p1,p2,p3,p4,p5⟩:=al_some (drawOk_allocs hok) h h1 h3
      rw [hm] at p1 p4
      exact ⟨p1,fun i o hi ho hne=>(p4 i o hi ho hne).2,p5,hd.dst i0 oa h1 d h3⟩
  refine wp_region_any hcx.ok.mixed ?_
  have key:∀ (fuel:Nat) (listed:Array Bool) (s:St) (μ1:Lie) (a1:Act) (w1:World),listed.size=ops.size→(unlisted ops.size listed).length≤fuel→(∀ j,m≤j→listed.getD j false=false)→Fit ops.toList st Xs (fun j=>listed.getD j false) s→Rel E w0 μ1 (Cur al (fun j=>listed.getD j false) s) a1 w1 →
      (∀ t,t ∉ opsDst ops.toList→a1.tmps[t]? = a.tmps[t]?)→Goes w μ st w1 μ1 (Cur al (fun j=>listed.getD j false) s)→Closed ops.toList (fun j=>listed.getD j false)→wpAny P .any ops Q fuel listed a1 w1:=by
    have atEnd:∀ (fuel:Nat) (listed:Array Bool) (s:St) (μ1:Lie) (a1:Act) (w1:World),listed.size=ops.size→(unlisted ops.size listed).length≤fuel→(∀ j,m≤j→listed.getD j false=false)→Fit ops.toList st Xs (fun j=>listed.getD j false) s→Rel E w0 μ1 (Cur al (fun j=>listed.getD j false) s) a1 w1 →
        (∀ t,t ∉ opsDst ops.toList→a1.tmps[t]? = a.tmps[t]?)→Goes w μ st w1 μ1 (Cur al (fun j=>listed.getD j false) s)→Closed ops.toList (fun j=>listed.getD j false)→(∀ i,i<m→listed.getD i false=true)→wpAny P .any ops Q fuel listed a1 w1:=by
      intro fuel listed s μ1 a1 w1 hn hc htail hf hR1 hk hg hcl hall
      have hl:∀ i,i<ops.size→listed.getD i false=decide (i<m):=by
        intro i _
        rcases Nat.lt_or_ge i m with q | q
        · rw [hall i q];simp [q]
        · rw [htail i q];simp;omega
      have hs:s=st':=(hf.congr (L':=fun j=>decide (j<m)) fun j hj=>hl j (by omega)).same hfin
      subst hs
      have hcur:Cur al (fun j=>listed.getD j false) s=fin al s:=by
        cases al with
        | none=>rfl
        | some x =>
          obtain ⟨i0,d,t⟩:=x
          simp only [Cur,fin,hall i0 (hfacts i0 d t rfl).1,cond_true]
      rw [hcur] at hR1 hg
      have hcount:ops.size-m≤fuel:=by
        have:unlisted ops.size listed=(List.range ops.size).filter fun i=>!decide (i<m):=by
          unfold unlisted
          apply List.filter_congr
          intro i hi
          have hi:i<ops.size:=by simpa using hi
          rw [getD_true (by omega),hl i hi]
        rw [this,unlisted_from] at hc
        exact hc
      exact tail_any hd (ops.size-m) fuel m listed a1 w1 hn hl hcl (by omega) (by omega) hcount (hQ μ1 a1 w1 hR1 hk hg)
    intro fuel
    induction fuel with
    | zero =>
      intro listed s μ1 a1 w1 hn hc htail hf hR1 hk hg hcl
      by_cases hall:∀ i,i<m→listed.getD i false=true
      · exact atEnd _ listed s μ1 a1 w1 hn hc htail hf hR1 hk hg hcl hall
      · exfalso
        apply hall
        intro i hi
        have hnil:unlisted ops.size listed=[]:=List.eq_nil_of_length_eq_zero (by omega)
        unfold unlisted at hnil
        rw [List.filter_eq_nil_iff] at hnil
        have:=hnil i (by simp;omega)
        rw [getD_true (by omega)] at this
        simpa using this
    | succ fuel ih =>
      intro listed s μ1 a1 w1 hn hc htail hf hR1 hk hg hcl
      by_cases hall:∀ i,i<m→listed.getD i false=true
      · exact atEnd _ listed s μ1 a1 w1 hn hc htail hf hR1 hk hg hcl hall
      refine ⟨fun hready=>absurd ?_ hall,fun i hi=>?_⟩
      · intro i
        induction i using Nat.strongRecOn with
        | _ i ih =>
          intro hi
          have hin:i<ops.size:=by omega
          cases hl:listed.getD i false with
          | true=>rfl
          | false =>
            exfalso
            have hoi':ops.toList[i]? = some ops[i]:=by rw [Array.getElem?_toList];exact Array.getElem?_eq_getElem hin
            have:i∈Region.ready .any ops listed:=(ready_iff hn).mpr ⟨_,hoi',hl,fun e he=>by
              obtain ⟨e',he',hbnd,rfl⟩:=edges_mem he
              have:=hd.back i _ hoi' e' he' hbnd
              exact ih e'.on this (by omega)⟩
            rw [hready] at this
            cases this
      obtain ⟨o,hoi',hul,hdep0⟩:=(ready_iff hn).mp hi
      have hin:i<ops.size:=by have:=lt_get hoi';simpa using this
      have hoi:ops[i]? = some o:=by rw [← Array.getElem?_toList];exact hoi'
      have him:i<m:=by
        rcases Nat.lt_or_ge i m with q | q
        · exact q
        · exfalso
          apply hall
          intro b hb
          exact tail_all hd hcl hoi' (by rw [hm];exact q) hdep0 b (by omega)
      have hdep:∀ j∈edges o,listed.getD j false=true∧j<i:=by
        intro j hj
        refine ⟨hdep0 j hj,?_⟩
        obtain ⟨e,he,hbnd,rfl⟩:=edges_mem hj
        exact hd.back i o hoi' e he hbnd
      obtain ⟨si,X,hfi,hX,hstep⟩:=hsteps i o (Nat.zero_le _) him hoi'
      have slot:∀ t j,writer ops.toList t=some j→j∈edges o→s.tmps[t]? = si.tmps[t]?:=by
        intro t j hw hj
        obtain ⟨h1,h2⟩:=hdep j hj
        rcases Nat.lt_or_ge t st.tmps.length with q | q
        · rw [hf.get t q,hfi.get t q,hw]
          simp [h1,h2]
        · rw [List.getElem?_eq_none (by rw [hf.len];exact q),List.getElem?_eq_none (by rw [hfi.len];exact q)]
      have slot':∀ t∈looked o,s.tmps[t]? = si.tmps[t]?:=by
        intro t ht
        cases hw:writer ops.toList t with
        | some j =>
          rcases hd.reads i o hoi' t ht j hw with hr | ⟨oj,hoj,hie⟩
          · exact slot t j hw hr
          · have hij:i<j:=by
              obtain ⟨e,he,hbnd,rfl⟩:=edges_mem hie
              exact hd.back j oj hoj e he hbnd
            have hlj:listed.getD j false=false:=by
              cases hl:listed.getD j false with
              | false=>rfl
              | true =>
                have h1:=hcl j oj hoj hl i hie
                simp only at h1
                rw [h1] at hul;cases hul
            rcases Nat.lt_or_ge t st.tmps.length with q | q
            · rw [hf.get t q,hfi.get t q,hw]
              have:¬ j<i:=by omega
              simp [hlj,this]
            · rw [List.getElem?_eq_none (by rw [hf.len];exact q),List.getElem?_eq_none (by rw [hfi.len];exact q)]
        | none =>
          rcases Nat.lt_or_ge t st.tmps.length with q | q
          · rw [hf.get t q,hfi.get t q,hw]
          · rw [List.getElem?_eq_none (by rw [hf.len];exact q),List.getElem?_eq_none (by rw [hfi.len];exact q)]
      have hget:∀ x∈o.op.operands,s.get x=si.get x:=by
        intro x hx
        cases x with
        | tmp t =>
          show s.tmps.getD t V.undef=si.tmps.getD t V.undef
          rw [List.getD_eq_getElem?_getD,List.getD_eq_getElem?_getD,slot' t (looked_mem hx)]
        | const v=>rfl
        | global g=>rfl
        | func f=>rfl
      have hn':(listed.setIfInBounds i true).size=ops.size:=by simpa using hn
      have hc':(unlisted ops.size (listed.setIfInBounds i true)).length≤fuel:=by
        have:=unlisted_less hn hin (by rw [getD_true (by omega)];exact hul);omega
      have htail':∀ j,m≤j→(listed.setIfInBounds i true).getD j false=false:=by
        intro j hj
        rw [getD_set hn hin,htail j hj]
        have:j≠i:=by omega
        simpa using this
      have hf':Fit ops.toList st Xs (fun j=>(listed.setIfInBounds i true).getD j false) (s.put o.dst X):=(hf.put hoi' hX (hd.dst i o hoi')).congr fun j hj=>(getD_set hn hin j).symm
      have hcl':=closed_set hn hin hoi' hdep0 hcl
      have hframe:∀ v t,t ∉ opsDst ops.toList→(a1.put o.dst v).tmps[t]? = a.tmps[t]?:=by
        intro v t ht
        rw [← hk t ht]
        cases hdst:o.dst with
        | none=>rfl
        | some d =>
          have:d≠t:=by rintro rfl;exact ht (opsDst_get hoi' hdst)
          simp only [Act.put]
          rw [Array.getElem?_setIfInBounds_ne this]
      unfold wpOp
      simp only [hoi]
      unfold Step at hstep
      by_cases hisal:isAlloc o=true
      · -- the variable is made
        rw [if_pos hisal] at hstep
        subst hstep
        cases hal with
        | none h=>exact absurd (al_none h hoi' (by rw [hm];exact him)) (by rw [hisal];simp)
        | some i0 oa tid d t h h1 h2 h3 h4 =>
          obtain ⟨p1,p2,p3,p4,p5⟩:=al_some (drawOk_allocs hok) h h1 h3
          have hi0:i=i0:=by
            rcases Nat.decEq i i0 with q | q
            · have:=(p4 i o (by rw [hm];exact him) hoi' q).1
              rw [hisal] at this;cases this
            · exact q
          subst hi0
          rw [hoi'] at h1
          cases h1
          have hw:Region.wanted o (yielded ops a1.tmps)=true:=by unfold Region.wanted;rw [p3]
          rw [if_pos hw]
          have hcur:Cur (some (i,d,t)) (fun j=>listed.getD j false) s=s:=by simp only [Cur,hul,cond_false]
          rw [hcur] at hR1 hg
          have hev:evOp cx (fun _ _ _ _ _=>none) [] o s (fun X st'=>some (X,st'))=some (newPtr t s.bl.length,({ s with bl:=s.bl++extOf t s.bl.length }:St)):=by
            unfold evOp
            simp only [h2,h4,extOf,newPtr,List.append_assoc]
          refine Or.inl ((eff_alloc hcx.ok hR1 h2 hev).opOk _ _ ?_)
          intro X' st2 μ2 v w2 e hrep hR2 ht hg2
          cases e
          have hcur':Cur (some (i,d,t)) (fun j=>(listed.setIfInBounds i true).getD j false) (s.put o.dst V.undef)=({ s with bl:=s.bl++extOf t s.bl.length }:St).put o.dst (newPtr t s.bl.length):=by
            simp only [Cur,getD_set hn hin,beq_self_eq_true,Bool.or_true,cond_true,h3,grownSt,St.put,List.set_set]
          refine ih _ _ μ2 _ w2 hn' hc' htail' hf' ?_ (hframe v) ?_ hcl'
          · rw [hcur'];exact hR2.put o.dst hrep
          · rw [hcur'];exact (hg.trans hg2).trans (goes_put _ _)
      rw [if_neg hisal] at hstep
      have hnot:∀ i0 d t,al=some (i0,d,t)→i≠i0∧d ∉ looked o∧o.dst≠some d:=by
        intro i0 d t e
        obtain ⟨q1,q2,q3,q4⟩:=hfacts i0 d t e
        have hne:i≠i0:=by
          rintro rfl
          cases hal with
          | none h=>cases e
          | some i0' oa tid d' t' h h1 h2 h3 h4 =>
            cases e
            rw [hoi'] at h1
            cases h1
            apply hisal
            unfold isAlloc
            rw [h2]
        refine ⟨hne,q2 i o him hoi' hne,fun hdd=>hne ?_⟩
        have:=hd.dst i o hoi' d hdd
        rw [q4] at this
        exact (Option.some.inj this).symm
      have hcalm:∀ {Y:V},evCalm cx o si some=some Y→evCalm cx o (Cur al (fun j=>listed.getD j false) s) some=some Y:=fun h=>by
        refine cur_calm (fun i0 d t e=>(hnot i0 d t e).2.1) ?_
        rw [evCalm_congr (cx:=cx) (o:=o) (st:=si) (st':=s) (by rw [hf.bl,hfi.bl]) hget];exact h
      have done:∀ μ2 v w2,RepV E w2 μ2 (Cur al (fun j=>listed.getD j false) s).bl X v→Rel E w0 μ2 (Cur al (fun j=>listed.getD j false) s) a1 w2→Goes w1 μ1 (Cur al (fun j=>listed.getD j false) s) w2 μ2 (Cur al (fun j=>listed.getD j false) s)→wpAny P .any ops Q fuel (listed.setIfInBounds i true) (a1.put o.dst v) w2:=by
        intro μ2 v w2 hrep hR2 hg2
        have hcur':(Cur al (fun j=>listed.getD j false) s).put o.dst X=Cur al (fun j=>(listed.setIfInBounds i true).getD j false) (s.put o.dst X):=cur_put fun i0 d t e=>by
          obtain ⟨h1,h2,h3⟩:=hnot i0 d t e
          refine ⟨?_,h3⟩
          simp only [getD_set hn hin]
          have:(i0 == i)=false:=by simpa using Ne.symm h1
          rw [this,Bool.or_false]
        refine ih _ _ μ2 _ w2 hn' hc' htail' hf' ?_ (hframe v) ?_ hcl'
        · rw [← hcur'];exact hR2.put o.dst hrep
        · rw [← hcur'];exact (hg.trans hg2).trans (goes_put o.dst X)
      split at hstep
      · next hgd =>
        have hw:Region.wanted o (yielded ops a1.tmps)=true:=by unfold Region.wanted;rw [hgd]
        rw [if_pos hw]
        exact Or.inl (evCalm_sound hcx hR1 (hcalm hstep) _ Q done)
      · next j want hgd =>
        obtain ⟨oj,d,h1,h2,hcase⟩:=hstep
        have hsd:(Cur al (fun j=>listed.getD j false) s).tmps.getD d V.undef=si.tmps.getD d V.undef:=by
          rw [cur_tmp (fun i0 d' t e hdd=>by
            obtain ⟨q1,q2,q3,q4⟩:=hfacts i0 d' t e
            refine q3 i o j want hoi' hgd ?_
            subst hdd
            have:=hd.dst j oj h1 d h2
            rw [q4] at this
            exact (Option.some.inj this).symm)]
          rw [List.getD_eq_getElem?_getD,slot d j (hd.dst j oj h1 d h2) (hd.guard i o hoi' j want hgd),← List.getD_eq_getElem?_getD]
        rcases hcase with ⟨b,h3,h4,h5⟩ | ⟨h3,h5⟩
        case inr =>
          have hval:=hR1.tmp d
          rw [hsd,h3] at hval
          have hval:a1.tmps.getD d undef=undef:=hval.skipped_eq
          have hy:yielded ops a1.tmps j=none:=by
            unfold yielded
            rw [← Array.getElem?_toList,h1]
            simp only [Option.bind_some,h2]
            rw [Array.getD_eq_getD_getElem?] at hval
            cases hq:a1.tmps[d]? with
            | none=>rfl
            | some u =>
              rw [hq] at hval
              have hval:u=undef:=hval
              subst hval
              rfl
          have hw:Region.wanted o (yielded ops a1.tmps)=false:=by unfold Region.wanted;rw [hgd];simp [hy]
          rw [hw]
          subst h5
          exact done μ1 undef w1 RepV.skipped hR1 (Goes.refl _ _ _)
        have hval:=hR1.tmp d
        rw [hsd,h3] at hval
        have hval:a1.tmps.getD d undef = .bool b:=hval
        have hlt:a1.tmps[d]? = some (.bool b):=by
          rw [Array.getD_eq_getD_getElem?] at hval
          cases hq:a1.tmps[d]? with
          | none=>rw [hq] at hval;exact absurd hval (by simp [undef])
          | some u=>rw [hq] at hval;exact congrArg some hval
        have hy:yielded ops a1.tmps j=some b:=by
          unfold yielded
          rw [← Array.getElem?_toList,h1]
          simp only [Option.bind_some,h2,hlt]
        have hw:Region.wanted o (yielded ops a1.tmps)=(b == want):=by unfold Region.wanted;rw [hgd];simp [hy]
        rw [hw]
        by_cases e:b=want
        · rw [if_pos (by simpa using e)]
          exact Or.inl (evCalm_sound hcx hR1 (hcalm (h4 e)) _ Q done)
        · rw [if_neg (by simpa using e)]
          have:=h5 e
          subst this
          exact done μ1 undef w1 RepV.skipped hR1 (Goes.refl _ _ _)
  have hb:Below w.heap.size w { w with drawn:=w.drawn+1 }:=⟨rfl,rfl,rfl,Nat.le_refl _,fun _ _=>rfl⟩
  obtain ⟨m1,e1⟩:=hR.mem.world hb
  have hnone:∀ j,(Array.replicate ops.size false).getD j false=false:=fun j=>by
    rw [Array.getD_eq_getD_getElem?,Array.getElem?_replicate]
    split <;> rfl
  have hcur:Cur al (fun j=>(Array.replicate ops.size false).getD j false) st=st:=by
    cases al with
    | none=>rfl
    | some x=>simp only [Cur,hnone,cond_false]
  refine key ops.size _ st μ a _ (by simp) ?_ (fun j _=>hnone j) ⟨rfl,rfl,rfl,fun t ht=>?_⟩ (by rw [hcur];exact hR.next m1 e1 (hR.tree.world hR.mem hb)) (fun _ _=>rfl) (by rw [hcur];exact ⟨e1,rfl,fun _ _ _=>rfl⟩) (fun j oj _ hl=>by simp only [hnone j] at hl;cases hl)
  · unfold unlisted
    exact Nat.le_trans (List.length_filter_le _ _) (by simp)
  · split
    · next j hj=>simp only [hnone j];rfl
    · rfl
end
end Go.Proofs.YtnohkcklakipoaaGreatDoor.Ev
namespace Go.Proofs.YtnohkcklakipoaaGreatDoor.Ev
open Go Go.RowKit
set_option linter.unusedVariables false
set_option linter.unusedSimpArgs false
variable {ρ:Type}
section
variable {P:Program} {cx:Cx} {E:Env} {w0 w:World} {μ:Lie} {st:St} {a:Act} {o:Oper}
def Grown (bl bl':List Blk):Prop:=∀ (b:Nat) (x:Blk),bl[b]? = some x→x ≠ .dead→bl'[b]? = some x∨∃ (g:Nat) (nf:Bool) (t:Ty) (l:List t.den),x=Blk.arr g true nf t l∧bl'[b]? = some (Blk.arr g false nf t l)
theorem Grown.refl (bl:List Blk):Grown bl bl:=fun b x h _=>Or.inl h
theorem Grown.trans {a b c:List Blk} (h:Grown a b) (h':Grown b c):Grown a c:=by
  intro i x hx hnd
  rcases h i x hx hnd with q | ⟨g,nf,t,l,e,q⟩
  · exact h' i x q hnd
  · rcases h' i _ q (by simp) with q2 | ⟨g',nf',t',l',e2,q2⟩
    · exact Or.inr ⟨g,nf,t,l,e,q2⟩
    · cases e2
theorem Grown.append (bl ext:List Blk):Grown bl (bl++ext):=fun b x h _=>Or.inl (blk_mono h)
theorem Grown.freeze {s s':St} {b:Nat} (h:s.freeze b=some s'):Grown s.bl s'.bl:=by
  unfold St.freeze at h
  split at h
  · next g nf t l hb =>
    have h:=(cond_none' h).2
    cases h
    intro i x hx _
    by_cases e:i=b
    · subst e
      rw [hb] at hx
      cases hx
      exact Or.inr ⟨g,nf,t,l,rfl,getElem?_set_self hb⟩
    · left
      show (s.bl.set b _)[i]? = some x
      rw [getElem?_set_ne' e];exact hx
  · cases h;exact Grown.refl _
theorem Grown.freezeAll:∀ (bs:List Nat) {s s':St},Ev.freezeAll s bs=some s'→Grown s.bl s'.bl
  | [],s,s',h=>by simp only [Ev.freezeAll] at h;cases h;exact Grown.refl _
  | b :: bs,s,s',h=>by
    simp only [Ev.freezeAll] at h
    split at h
    · next s1 h1=>exact (Grown.freeze h1).trans (Grown.freezeAll bs h)
    · cases h
section
variable {bl bl':List Blk}
theorem Grown.view (hg:Grown bl bl') {c:A} (h:c.view bl ≠ .undef):c.view bl'=c.view bl:=by
  cases c with
  | os b g =>
    simp only [A.view] at h ⊢
    cases hb:bl[b]? with
    | none=>rw [hb] at h;exact absurd rfl h
    | some x =>
      have hnd:x ≠ .dead:=by rintro rfl;rw [hb] at h;exact h rfl
      rcases hg b x hb hnd with e | ⟨g',nf,t,l,rfl,e⟩ <;> rw [e]
  | _=>rfl
theorem Grown.cellsAt (hg:Grown bl bl') {v:V} {x:List A × Nat} (h:Ev.cellsAt bl v=some x):Ev.cellsAt bl' v=some x:=by
  unfold Ev.cellsAt at h ⊢
  split at h
  · split at h
    · next hb=>rcases hg _ _ hb (by simp) with e | ⟨g',nf,t,l,e1,e⟩ <;> first | (cases e1;done) | (rw [e];exact h)
    · cases h
  · split at h
    · next hb=>rcases hg _ _ hb (by simp) with e | ⟨g',nf,t,l,e1,e⟩ <;> (try cases e1) <;> (rw [e];exact h)
    · cases h
  · exact h
  · cases h
theorem Grown.sure (hg:Grown bl bl') {v x:V} (h:Ev.sure bl v=some x):Ev.sure bl' v=some x:=by
  unfold Ev.sure at h ⊢
  split at h
  · split at h
    · next hb=>rcases hg _ _ hb (by simp) with e | ⟨g',nf,t,l,e1,e⟩ <;> first | (cases e1;done) | (rw [e];exact h)
    · cases h
  · split at h
    · next hb=>rcases hg _ _ hb (by simp) with e | ⟨g',nf,t,l,e1,e⟩ <;> (try cases e1) <;> (rw [e];exact h)
    · cases h
  · exact h
  · cases h
theorem Grown.lenOf (hg:Grown bl bl') {v:V} {x:Bool × Nat} (h:Ev.lenOf bl v=some x):Ev.lenOf bl' v=some x:=by
  unfold Ev.lenOf at h ⊢
  split at h
  · exact h
  · exact h
  · exact h
  · exact h
  · split at h
    · next hb=>rcases hg _ _ hb (by simp) with e | ⟨g',nf,t,l,e1,e⟩ <;> (try cases e1) <;> (rw [e];exact h)
    · cases h
  · cases h
end
def Spoilt (q:Bool × List Nat) (bl bl':List Blk):Prop:=Grown (bl.map (killBlk q)) bl'
theorem kill_get {q:Bool × List Nat} {bl:List Blk} {b:Nat} {x:Blk} (h:(bl.map (killBlk q))[b]? = some x) (hnd:x ≠ .dead):bl[b]? = some x∧killBlk q x=x:=by
  rw [List.getElem?_map,Option.map_eq_some_iff] at h
  obtain ⟨y,hy,rfl⟩:=h
  cases y with
  | var cs =>
    unfold killBlk at hnd ⊢
    cases hc:q.2.contains cs.length with
    | true=>simp only [hc,cond_true] at hnd;exact absurd rfl hnd
    | false=>simp only [hc,cond_false];exact ⟨hy,by simp only [hc,cond_false]⟩
  | arr g own nf t l =>
    unfold killBlk at hnd ⊢
    cases hc:q.1 with
    | true=>simp only [hc,cond_true] at hnd;exact absurd rfl hnd
    | false=>simp only [hc,cond_false];exact ⟨hy,by simp only [hc,cond_false]⟩
  | dead=>exact absurd rfl hnd
theorem Grown.spoilt {q:Bool × List Nat} {bl bl':List Blk} (h:Grown bl bl'):Spoilt q bl bl':=fun b x hb hnd=>h b x (kill_get hb hnd).1 hnd
theorem Spoilt.refl (q:Bool × List Nat) (bl:List Blk):Spoilt q bl bl:=(Grown.refl bl).spoilt
theorem Spoilt.trans {q q':Bool × List Nat} {a b c:List Blk} (h:Spoilt q a b) (h':Spoilt q' b c) (h1:q'.1=true→q.1=true) (h2:∀ n,n∈q'.2→n∈q.2):Spoilt q a c:=by
  have alive:∀ (i:Nat) (y:Blk),b[i]? = some y→(∀ cs,y = .var cs→q.2.contains cs.length=false)→(∀ g own nf t l,y = .arr g own nf t l→q.1=false)→(b.map (killBlk q'))[i]? = some y:=by
    intro i y hy hv ha
    rw [List.getElem?_map,hy]
    show some (killBlk q' y)=some y
    cases y with
    | var cs =>
      have hc:q'.2.contains cs.length=false:=by
        have:=hv cs rfl
        rw [Bool.eq_false_iff] at this ⊢
        intro hx
        exact this (by simp only [List.contains_iff_mem] at hx ⊢;exact h2 _ hx)
      simp only [killBlk,hc,cond_false]
    | arr g own nf t l =>
      have hc:q'.1=false:=by
        have:=ha g own nf t l rfl
        rw [Bool.eq_false_iff] at this ⊢
        exact fun hx=>this (h1 hx)
      simp only [killBlk,hc,cond_false]
    | dead=>rfl
  intro i x hx hnd
  obtain ⟨e1,e2⟩:=kill_get hx hnd
  have hv:∀ cs,x = .var cs→q.2.contains cs.length=false:=by
    rintro cs rfl
    cases hc:q.2.contains cs.length with
    | false=>rfl
    | true=>simp only [killBlk,hc,cond_true] at e2;cases e2
  have ha:∀ g own nf t l,x = .arr g own nf t l→q.1=false:=by
    rintro g own nf t l rfl
    cases hc:q.1 with
    | false=>rfl
    | true=>simp only [killBlk,hc,cond_true] at e2;cases e2
  rcases h i x hx hnd with e | ⟨g,nf,t,l,rfl,e⟩
  · exact h' i x (alive i x e hv ha) hnd
  · rcases h' i _ (alive i _ e (fun cs e=>by cases e) (fun _ _ _ _ _ e=>ha _ _ _ _ _ rfl)) (by simp) with e3 | ⟨_,_,_,_,e4,_⟩
    · exact Or.inr ⟨g,nf,t,l,rfl,e3⟩
    · cases e4
theorem get_bl {bl:List Blk} (x:Operand):({ st with bl:=bl }:St).get x=st.get x:=by cases x <;> rfl
def QuietKind (o:Oper):Prop :=
  match o.op with
  | .move _ | .assign _ | .pick _ _ _ | .load _ _ | .nilCheck _ | .fieldAddr _ _ _ | .field _ _ _ | .indexAddr _ _ _ | .index _ _ _ | .binOp _ _ _ _ _ | .unOp _ _ _ | .slice _ _ _ _ none | .convert _ _ _ | .extract _ _ | .build _ _=>True
  | .call c=>c.callee = .builtin .len
  | _=>False
theorem quiet_kind (h:isQuiet o=true):QuietKind o∧o.guard=none:=by
  unfold isQuiet at h
  rw [Bool.and_eq_true,Option.isNone_iff_eq_none] at h
  refine ⟨?_,h.1⟩
  have h:=h.2
  unfold QuietKind
  cases ho:o.op <;> rw [ho] at h <;> simp only [reduceCtorEq,Bool.false_eq_true] at h ⊢
  case slice t x lo hi mx=>cases mx with
    | none=>trivial
    | some m=>simp only [Bool.false_eq_true] at h
  case call c =>
    split at h
    · assumption
    · cases h
theorem evPure_grown {bl':List Blk} (hg:Grown st.bl bl') {X:V} (hk:QuietKind o) (h:evPure cx o st some=some X):evPure cx o { st with bl:=bl' } some=some X:=by
  unfold QuietKind at hk
  cases ho:o.op <;> rw [ho] at hk <;> (try exact hk.elim)
  case load t x =>
    unfold evPure at h ⊢;simp only [ho,get_bl] at h ⊢
    split at h
    · next ty cs off h1 h2=>(try rw [h1]);rw [hg.cellsAt h2];exact h
    · cases h
  case nilCheck x =>
    unfold evPure at h ⊢;simp only [ho,get_bl] at h ⊢
    split at h
    · next v hv=>rw [hg.sure hv];exact h
    · cases h
  case fieldAddr t x f =>
    unfold evPure at h ⊢;simp only [ho,get_bl] at h ⊢
    split at h
    · next ty h1 =>
      split at h
      · next d u v h2 h3=>(try simp only [h1,h2]);simp only [hg.sure h3];exact h
      · cases h
    · cases h
  case indexAddr t x i =>
    unfold evPure at h ⊢;simp only [ho,get_bl] at h ⊢
    split at h
    · next k i' h1 =>
      split at h
      · next fr u l h2=>first | exact h | (simp only [h1,h2];exact h)
      · next b g h2 =>
        split at h
        · next g' own nf u l hb =>
          (try simp only [h1,h2])
          rcases hg _ _ hb (by simp) with e | ⟨g2,nf2,t2,l2,e1,e⟩ <;> (try cases e1) <;> (simp only [e];exact h)
        · cases h
      · cases h
    · cases h
  case convert s d x =>
    unfold evPure at h ⊢;simp only [ho,get_bl] at h ⊢
    split at h
    · next k k' h1 h2=>first | exact h | (simp only [h1,h2];exact h)
    · next h1 h2=>first | exact h | (simp only [h1,h2];exact h)
    · next h1 h2 =>
      try simp only [h1,h2]
      split at h
      · next n hx =>
        split at h
        · next fr l hv=>rw [hg.view (by rw [hv];simp),hv];exact h
        · cases h
      · cases h
    · cases h
  case slice t x lo hi mx =>
    cases mx with
    | some m=>exact hk.elim
    | none =>
    unfold evPure at h ⊢;simp only [ho,get_bl] at h ⊢
    have h1:∀ y d,loadBound ({ st with bl:=bl' }:St) y d=loadBound st y d:=fun y d=>loadBound_congr fun z e=>get_bl z
    unfold evSlice at h ⊢
    simp only [h1]
    exact h
  case build t ps =>
    unfold evPure at h ⊢;simp only [ho] at h ⊢
    have h1:∀ u cs,fillIn u ({ st with bl:=bl' }:St) ps.toList cs=fillIn u st ps.toList cs:=fun u cs=>fillIn_congr ps.toList cs fun p hp=>get_bl p.2
    simp only [h1]
    exact h
  case binOp op t x y t' =>
    unfold evPure at h ⊢;simp only [ho] at h ⊢
    unfold evBin at h ⊢
    simp only [get_bl]
    exact h
  case call c =>
    have hk:c.callee = .builtin .len:=hk
    unfold evPure at h ⊢;simp only [ho,hk] at h ⊢
    split at h
    · next x t h1 h2 =>
      rw [get_bl]
      split at h
      · next n e h3 h4=>simp only [hg.lenOf h3];first | exact h | (simp only [h4];exact h)
      · next n h3 h4=>simp only [hg.lenOf h3];first | exact h | (simp only [h4];exact h)
      · cases h
    · cases h
  all_goals (unfold evPure at h ⊢;simp only [ho,get_bl] at h ⊢;exact h)
theorem freeze_tmps (T:List V) (s:St) (b:Nat):({ s with tmps:=T }:St).freeze b=(s.freeze b).map fun s'=>{ s' with tmps:=T }:=by
  unfold St.freeze
  simp only
  split
  · cases s.lock.contains b <;> rfl
  · rfl
theorem handOver_tmps (T:List V) (s:St) (b:Nat) (nf:Bool) (t:Ty) (y:V):handOver { s with tmps:=T } b nf t y={ handOver s b nf t y with tmps:=T }:=by
  unfold handOver
  have e:handsOver ({ s with tmps:=T }:St) b y=handsOver s b y:=rfl
  rw [e]
  cases hc:nf && !t.flat&&handsOver s b y with
  | false=>rfl
  | true =>
    simp only [cond_true]
    split
    · next by' gy =>
      simp only [freeze_tmps]
      cases s.freeze by' <;> rfl
    · rfl
theorem freeze_only {s s':St} {b:Nat} (h:s.freeze b=some s'):s'={ s with bl:=s'.bl }:=by
  unfold St.freeze at h
  split at h
  · have h:=(cond_none' h).2;cases h;rfl
  · cases h;rfl
theorem handOver_only (s:St) (b:Nat) (nf:Bool) (t:Ty) (y:V):handOver s b nf t y={ s with bl:=(handOver s b nf t y).bl }:=by
  unfold handOver
  cases hc:nf && !t.flat&&handsOver s b y with
  | false=>rfl
  | true =>
    simp only [cond_true]
    split
    · next by' gy =>
      cases hf:s.freeze by' with
      | none=>rfl
      | some s1=>exact freeze_only hf
    · rfl
theorem append_det {ts:List TypeId} {x y:V} {K:V→St→Option ρ} {r:ρ} (h:evAppend cx ts x y st K=some r) :
    ∃ X bl',K X { st with bl:=bl' }=some r∧Spoilt (true,[]) st.bl bl'∧∀ (s':St),s'.bl=st.bl→s'.lock=st.lock→evAppend cx ts x y s' (fun v s=>some (v,s))=some (X,{ s' with bl:=bl' }):=by
  unfold evAppend at h
  split at h
  case h_2=>cases h
  next t0 t1 b g m hm =>
  split at h
  case h_2=>cases h
  next g' nf t l hb =>
  have hc:=(cond_none h).1
  replace h:=(cond_none h).2
  split at h
  case h_2=>cases h
  next e he =>
  have hd:=(cond_none h).1
  replace h:=(cond_none h).2
  have e1:=handOver_only st b nf t y
  rw [e1] at h
  have hgr:Grown st.bl (handOver st b nf t y).bl:=by
    unfold handOver
    cases hc:nf && !t.flat&&handsOver st b y with
    | false=>exact Grown.refl _
    | true =>
      simp only [cond_true]
      split
      · next by' gy =>
        cases hf:st.freeze by' with
        | none=>exact Grown.refl _
        | some s1=>exact Grown.freeze hf
      · exact Grown.refl _
  refine ⟨_,_,h,fun c x hx hnd=>?_,fun s' hb' hl'=>?_⟩
  · obtain ⟨e2,e3⟩:=kill_get hx hnd
    have hcb:c≠b:=by
      rintro rfl
      rw [hb] at e2;cases e2
      simp [killBlk] at e3
    show ((handOver st b nf t y).bl.set b _)[c]? = _∨_
    rw [getElem?_set_ne' hcb]
    exact hgr c x e2 hnd
  have e2:s'={ st with tmps:=s'.tmps }:=by cases s';cases st;simp only at hb' hl';subst hb' hl';rfl
  unfold evAppend
  rw [hb',hm]
  simp only [hb]
  rw [hl']
  simp only [hc,cond_true,he,hd]
  rw [e2]
  rw [handOver_tmps,e1]
  rfl
theorem freezeAll_tmps (T:List V):∀ (bs:List Nat) (s:St),freezeAll { s with tmps:=T } bs=(freezeAll s bs).map fun s'=>{ s' with tmps:=T }
  | [],s=>rfl
  | b :: bs,s=>by
    have h1:({ s with tmps:=T }:St).freeze b=(s.freeze b).map fun s'=>{ s' with tmps:=T }:=by
      unfold St.freeze
      simp only
      split
      · cases s.lock.contains b <;> rfl
      · rfl
    simp only [freezeAll,h1]
    cases s.freeze b with
    | none=>rfl
    | some s1=>exact freezeAll_tmps T bs s1
theorem freezeAll_only {s s':St} {bs:List Nat} (h:freezeAll s bs=some s'):s'={ s with bl:=s'.bl }:=by
  have h1:=freezeAll_tmps s.tmps bs s
  rw [h] at h1
  have h1:freezeAll s bs=some { s' with tmps:=s.tmps }:=h.trans h1
  rw [h] at h1
  have e1:=Option.some.inj h1
  have hl:s'.lock=s.lock:=by
    have key:∀ (bs:List Nat) (s s':St),freezeAll s bs=some s'→s'.lock=s.lock:=by
      intro bs
      induction bs with
      | nil=>intro s s' h;simp only [freezeAll] at h;cases h;rfl
      | cons b bs ih =>
        intro s s' h
        simp only [freezeAll] at h
        split at h
        · next s1 hs1 =>
          have h2:s1.lock=s.lock:=by
            unfold St.freeze at hs1
            split at hs1
            · have hs1:=(cond_none' hs1).2;cases hs1;rfl
            · cases hs1;rfl
          rw [ih s1 s' h,h2]
        · cases h
    exact key bs s s' h
  cases s;cases s'
  simp only at e1 hl ⊢
  cases hl
  rw [e1]
theorem ofCells_len (need:Bool):∀ (t:Ty) (cs:List A) (x:t.den) (r:List A),t.ofCells need cs=some (x,r)→cs.length=t.size+r.length
  | .int k,cs,x,r,h=>by
    cases cs with
    | nil=>unfold Ty.ofCells at h;cases h
    | cons c cs =>
      cases c with
      | int k' n =>
        unfold Ty.ofCells at h
        split at h <;> cases h
        simp [Ty.size];omega
      | _=>unfold Ty.ofCells at h;cases h
  | .bool,cs,x,r,h=>by
    cases cs with
    | nil=>unfold Ty.ofCells at h;cases h
    | cons c cs =>
      cases c with
      | bool b =>
        unfold Ty.ofCells at h
        cases h
        simp [Ty.size];omega
      | _=>unfold Ty.ofCells at h;cases h
  | .str,cs,x,r,h=>by
    cases cs with
    | nil=>unfold Ty.ofCells at h;cases h
    | cons c cs =>
      cases c with
      | str b =>
        unfold Ty.ofCells at h
        cases h
        simp [Ty.size];omega
      | _=>unfold Ty.ofCells at h;cases h
  | .adr,cs,x,r,h=>by cases cs <;> (unfold Ty.ofCells at h;cases h)
  | .err,cs,x,r,h=>by
    cases cs with
    | nil=>unfold Ty.ofCells at h;cases h
    | cons c cs =>
      cases c with
      | err b =>
        unfold Ty.ofCells at h
        cases h
        simp [Ty.size];omega
      | _=>unfold Ty.ofCells at h;cases h
  | .slice e,cs,x,r,h=>by
    cases cs with
    | nil=>unfold Ty.ofCells at h;cases h
    | cons c cs =>
      cases c with
      | sl fr e' l =>
        unfold Ty.ofCells at h
        split at h
        · have:=(cond_none' h).2
          cases this
          simp [Ty.size];omega
        · cases h
      | _=>unfold Ty.ofCells at h;cases h
  | .pair a b,cs,x,r,h=>by
    unfold Ty.ofCells at h
    split at h
    · next y r1 h1 =>
      split at h
      · next z r2 h2 =>
        cases h
        have e1:=ofCells_len need a _ _ _ h1
        have e2:=ofCells_len need b _ _ _ h2
        simp only [Ty.size];omega
      · cases h
    · cases h
  | .struct b,cs,x,r,h=>by
    unfold Ty.ofCells at h
    exact ofCells_len need b _ _ _ h
theorem ptr_det {s:PSpec} {args:List V} {K:V→St→Option ρ} {r:ρ} (h:evPtr s args st K=some r) :
    ∃ X bl',K X { st with bl:=bl' }=some r∧Spoilt (false,[s.ptr.size]) st.bl bl'∧∀ (s':St),s'.bl=st.bl→s'.lock=st.lock→evPtr s args s' (fun v s=>some (v,s))=some (X,{ s' with bl:=bl' }):=by
  unfold evPtr at h
  split at h
  case h_2=>cases h
  next b args =>
  split at h
  case h_2=>cases h
  next cs hb =>
  have hc:=(cond_none h).1
  replace h:=(cond_none h).2
  split at h
  case h_2=>cases h
  next x xs hx hxs =>
  cases hsem:s.sem x xs with
  | none=>rw [hsem] at h;cases h
  | some y =>
  rw [hsem] at h
  simp only [Option.bind_some] at h
  split at h
  case h_2=>cases h
  next st1 h1 =>
  have e1:=freezeAll_only h1
  rw [e1] at h
  refine ⟨_,_,h,fun c z hz hnd=>?_,fun s' hb' hl'=>?_⟩
  · obtain ⟨e2,e3⟩:=kill_get hz hnd
    have hlen:cs.length=s.ptr.size:=by
      have:=ofCells_len _ _ _ _ _ hx
      simpa using this
    have hcb:c≠b:=by
      rintro rfl
      rw [hb] at e2;cases e2
      simp [killBlk,hlen] at e3
    have hlt:c<st1.bl.length:=by
      rcases Grown.freezeAll _ h1 c z e2 hnd with q | ⟨_,_,_,_,_,q⟩ <;> exact lt_get q
    show (st1.bl.set b _++_)[c]? = _∨_
    rw [List.getElem?_append_left (by simpa using hlt),getElem?_set_ne' hcb]
    have hv:=Grown.freezeAll _ h1 c z e2 hnd
    rcases hv with q | ⟨g,nf,t,l,q1,q2⟩
    · exact Or.inl q
    · exact Or.inr ⟨g,nf,t,l,q1,q2⟩
  · have e2:s'={ st with tmps:=s'.tmps }:=by cases s';cases st;simp only at hb' hl';subst hb' hl';rfl
    unfold evPtr
    rw [hb']
    simp only [hb]
    rw [hl']
    simp only [hc,cond_true,hx,hxs,hsem,Option.bind_some]
    rw [e2,freezeAll_tmps,h1]
    simp only [Option.map_some]
    rw [e1]
def earlyOp (cx:Cx) (o:Oper) (st:St):Option (V × St) :=
  bif isQuiet o then evPure cx o st fun v=>some (v,st) else evOp cx (ptrInl cx) [] o st fun v s=>some (v,s)
theorem early_kind (h:isEarly cx o=true) (hq:isQuiet o=false):o.guard=none∧((∃ t n ps,o.op = .buildSlice t n ps)∨(∃ c f s,o.op = .call c∧c.callee = .value (.func f)∧cx.call f=some s)∨(∃ c f s,o.op = .call c∧c.callee = .value (.func f)∧cx.call f=none∧cx.ptr f=some s)∨∃ c,o.op = .call c∧c.callee = .builtin .append):=by
  unfold isEarly at h
  rw [hq,Bool.false_or,Bool.and_eq_true,Option.isNone_iff_eq_none] at h
  refine ⟨h.1,?_⟩
  have h:=h.2
  cases ho:o.op <;> rw [ho] at h <;> simp only [Bool.false_eq_true] at h
  case buildSlice t n ps=>exact Or.inl ⟨t,n,ps,rfl⟩
  case call c =>
    split at h
    · next f hf =>
      cases hcf:cx.call f with
      | some s=>exact Or.inr (Or.inl ⟨c,f,s,rfl,hf,hcf⟩)
      | none =>
        rw [hcf] at h
        obtain ⟨s,hs⟩:=Option.isSome_iff_exists.mp (show (cx.ptr f).isSome=true by simpa using h)
        exact Or.inr (Or.inr (Or.inl ⟨c,f,s,rfl,hf,hcf,hs⟩))
    · next hc=>exact Or.inr (Or.inr (Or.inr ⟨c,rfl,hc⟩))
    · cases h
theorem early_det (h:isEarly cx o=true) {K:V→St→Option ρ} {r:ρ} (hr:(bif isQuiet o then evPure cx o st (fun v=>K v st) else evOp cx (ptrInl cx) [] o st K)=some r) :
    ∃ X bl',earlyOp cx o st=some (X,{ st with bl:=bl' })∧K X { st with bl:=bl' }=some r∧Spoilt (killsOf cx o) st.bl bl':=by
  unfold earlyOp
  cases hq:isQuiet o with
  | true =>
    rw [hq] at hr
    simp only [cond_true] at hr ⊢
    obtain ⟨X,h1,h2⟩:=evPure_det (quiet_kind hq).1 hr
    exact ⟨X,st.bl,h2 _,h1,Spoilt.refl _ _⟩
  | false =>
    rw [hq] at hr
    simp only [cond_false] at hr ⊢
    rcases (early_kind h hq).2 with ⟨t,n,ps,ho⟩ | ⟨c,f,s,ho,hc,hs⟩ | ⟨c,f,s,ho,hc,hn,hs⟩ | ⟨c,ho,hc⟩
    case inr.inr.inl =>
      have hkl:killsOf cx o=(false,[s.ptr.size]):=by unfold killsOf;simp only [ho,hc,hn,hs]
      have hg:st.get (.func f) = .at (.fn f []):=rfl
      rw [hkl]
      unfold evOp at hr ⊢
      simp only [ho,hc,hg,hn,ptrInl,hs] at hr ⊢
      obtain ⟨X,bl',h1,h3,h2⟩:=ptr_det hr
      exact ⟨X,bl',h2 st rfl rfl,h1,h3⟩
    case inr.inr.inr =>
      have hb:killsOf cx o=(true,[]):=by unfold killsOf;simp only [ho,hc]
      rw [hb]
      unfold evOp at hr ⊢
      simp only [ho,hc] at hr ⊢
      split at hr
      · next x y hxy =>
        obtain ⟨X,bl',h1,h3,h2⟩:=append_det hr
        exact ⟨X,bl',h2 st rfl rfl,h1,h3⟩
      · cases hr
    · unfold evOp at hr ⊢;simp only [ho] at hr ⊢
      split at hr
      case h_2=>cases hr
      next e he =>
      have hb:=(cond_none hr).1
      replace hr:=(cond_none hr).2
      simp only [hb,cond_true]
      split at hr
      case h_2=>cases hr
      next l st' hl hf =>
      (try simp only [he])
      (try simp only [hl,hf])
      have e1:=freezeAll_only hf
      have e2:=Grown.freezeAll _ hf
      rw [e1] at hr ⊢
      exact ⟨_,_,rfl,hr,(e2.trans (Grown.append _ _)).spoilt⟩
    · have hg:st.get (.func f) = .at (.fn f []):=rfl
      unfold evOp at hr ⊢
      simp only [ho,hc,hg,hs] at hr ⊢
      unfold evCall at hr ⊢
      split at hr
      case h_2=>cases hr
      next x hx =>
      (try simp only [hx])
      cases hsem:s.sem x with
      | none=>rw [hsem] at hr;cases hr
      | some y =>
        rw [hsem] at hr
        simp only [Option.bind_some] at hr ⊢
        split at hr
        case h_2=>cases hr
        next st1 h1 =>
        (try simp only [h1])
        have e1:st1={ st with bl:=st1.bl }∧Grown st.bl st1.bl:=by
          cases hfr:s.fresh with
          | true=>rw [hfr] at h1;simp only [cond_true] at h1;cases h1;exact ⟨rfl,Grown.refl _⟩
          | false=>rw [hfr] at h1;simp only [cond_false] at h1;exact ⟨freezeAll_only h1,Grown.freezeAll _ h1⟩
        obtain ⟨e1,e2⟩:=e1
        rw [e1] at hr ⊢
        exact ⟨_,_,rfl,hr,(e2.trans (Grown.append _ _)).spoilt⟩
theorem early_congr {s s':St} (h:isEarly cx o=true) (hb:s'.bl=s.bl) (hl:s'.lock=s.lock) (hg:∀ x∈o.op.operands,s'.get x=s.get x) {X:V} {bl':List Blk} (hr:earlyOp cx o s=some (X,{ s with bl:=bl' })) :
    earlyOp cx o s'=some (X,{ s' with bl:=bl' }):=by
  unfold earlyOp at hr ⊢
  cases hq:isQuiet o with
  | true =>
    rw [hq] at hr
    simp only [cond_true] at hr ⊢
    rw [evPure_congr hb hg (quiet_kind hq).1]
    obtain ⟨Y,h1,h2⟩:=evPure_det (quiet_kind hq).1 hr
    have h1:some (Y,s)=some (X,({ s with bl:=bl' }:St)):=h1
    cases s
    cases h1
    rw [h2]
    cases s'
    simp only at hb
    subst hb
    rfl
  | false =>
    rw [hq] at hr
    simp only [cond_false] at hr ⊢
    have hfz:∀ bs,freezeAll s' bs=(freezeAll s bs).map fun q=>{ q with tmps:=s'.tmps }:=by
      intro bs
      rw [← freezeAll_tmps]
      congr 1
      cases s;cases s'
      simp only at hb hl
      subst hb hl
      rfl
    rcases (early_kind h hq).2 with ⟨t,n,ps,ho⟩ | ⟨c,f,sp,ho,hc,hs⟩ | ⟨c,f,sp,ho,hc,hn,hs⟩ | ⟨c,ho,hc⟩
    case inr.inr.inl =>
      rw [ho] at hg
      simp only [Op.operands] at hg
      have hop:∀ x∈c.args.toList,s'.get x=s.get x:=fun x hx=>hg x (by unfold Call.operands;rw [hc];simp;right;simpa using hx)
      have hm:c.args.toList.map s'.get=c.args.toList.map s.get:=List.map_congr_left hop
      have hg1:s.get (.func f) = .at (.fn f []):=rfl
      have hg2:s'.get (.func f) = .at (.fn f []):=rfl
      unfold evOp at hr ⊢
      simp only [ho,hc,hg1,hg2,hn,ptrInl,hs,hm] at hr ⊢
      obtain ⟨X1,bl1,h1,_,h2⟩:=ptr_det hr
      simp only [Option.some.injEq,Prod.mk.injEq,St.mk.injEq,true_and,and_true] at h1
      obtain ⟨rfl,rfl⟩:=h1
      exact h2 s' hb hl
    case inr.inr.inr =>
      rw [ho] at hg
      simp only [Op.operands] at hg
      have hop:∀ x∈c.args.toList,s'.get x=s.get x:=fun x hx=>hg x (by unfold Call.operands;rw [hc];simpa using hx)
      unfold evOp at hr ⊢
      simp only [ho,hc] at hr ⊢
      split at hr
      · next x y hxy =>
        rw [hxy] at hop
        rw [hop x (by simp),hop y (by simp)]
        obtain ⟨X1,bl1,h1,_,h2⟩:=append_det hr
        simp only [Option.some.injEq,Prod.mk.injEq,St.mk.injEq,true_and,and_true] at h1
        obtain ⟨rfl,rfl⟩:=h1
        exact h2 s' hb hl
      · cases hr
    · rw [ho] at hg
      have hop:∀ p∈ps.toList,s'.get p.2=s.get p.2:=fun p hp=>hg p.2 (by simp only [Op.operands];simpa using ⟨p.1,by simpa using hp⟩)
      have h1:(ps.toList.map fun p=>s'.get p.2)=ps.toList.map fun p=>s.get p.2:=List.map_congr_left hop
      have h2:(ps.toList.flatMap fun p=>(s'.get p.2).cells)=ps.toList.flatMap fun p=>(s.get p.2).cells:=by
        rw [List.flatMap_def,List.flatMap_def,List.map_congr_left fun p hp=>by rw [hop p hp]]
      unfold evOp at hr ⊢;simp only [ho] at hr ⊢
      split at hr
      case h_2=>cases hr
      next e he =>
      have hbb:=(cond_none hr).1
      replace hr:=(cond_none hr).2
      simp only [hbb,cond_true]
      split at hr
      case h_2=>cases hr
      next l st' hll hf =>
      (try simp only [he])
      rw [fillElems_congr hb ps.toList 0 hop,hll,h1,hfz,hf,h2,hb]
      simp only [Option.map_some]
      have e1:=freezeAll_only hf
      rw [e1] at hr
      simp only [Option.some.injEq,Prod.mk.injEq,St.mk.injEq,true_and,and_true] at hr
      obtain ⟨rfl,rfl⟩:=hr
      rw [e1]
      simp only [hl]
    · rw [ho] at hg
      simp only [Op.operands] at hg
      have hop:∀ x∈c.args.toList,s'.get x=s.get x:=fun x hx=>hg x (by unfold Call.operands;rw [hc];simp;right;simpa using hx)
      have hm:c.args.toList.map s'.get=c.args.toList.map s.get:=List.map_congr_left hop
      have hg1:s.get (.func f) = .at (.fn f []):=rfl
      have hg2:s'.get (.func f) = .at (.fn f []):=rfl
      unfold evOp at hr ⊢
      simp only [ho,hc,hg1,hg2,hs,hm] at hr ⊢
      unfold evCall at hr ⊢
      rw [hb]
      split at hr
      case h_2=>cases hr
      next x hx =>
      (try simp only [hx])
      cases hsem:sp.sem x with
      | none=>rw [hsem] at hr;cases hr
      | some y =>
        rw [hsem] at hr
        simp only [Option.bind_some] at hr ⊢
        split at hr
        case h_2=>cases hr
        next st1 h1 =>
        cases hfr:sp.fresh with
        | true =>
          rw [hfr] at h1
          simp only [cond_true] at h1 ⊢
          cases h1
          simp only [Option.some.injEq,Prod.mk.injEq,St.mk.injEq,true_and,and_true] at hr
          obtain ⟨rfl,rfl⟩:=hr
          rw [hfr,hb]
        | false =>
          rw [hfr] at h1
          simp only [cond_false] at h1 ⊢
          rw [hfz,h1]
          simp only [Option.map_some]
          have e1:=freezeAll_only h1
          rw [e1] at hr
          simp only [Option.some.injEq,Prod.mk.injEq,St.mk.injEq,true_and,and_true] at hr
          obtain ⟨rfl,rfl⟩:=hr
          rw [hfr,e1]
          simp only [hl]
theorem ptrInl_ok (hcx:cx.good P E.G):InlOk P E (ptrInl cx:Inl ρ):=by
  intro w0 w μ st a path f Xs vs K r hR hX h
  unfold ptrInl at h
  split at h
  · next s hs=>exact ⟨(hcx.ptr f s hs).fn,evPtr_sound (hcx.ptr f s hs) hR hX h⟩
  · cases h
theorem early_sound (hcx:cx.good P E.G) (h:isEarly cx o=true) (hR:Rel E w0 μ st a w) {X:V} {bl':List Blk} (hr:earlyOp cx o st=some (X,{ st with bl:=bl' })) (next:Act→World→Prop) (Q:Exit→Act→World→Prop)
    (hn:∀ μ' v w',RepV E w' μ' bl' X v→Rel E w0 μ' { st with bl:=bl' } a w'→Goes w μ st w' μ' { st with bl:=bl' }→next (a.put o.dst v) w'):o.wp P a w next Q:=by
  unfold earlyOp at hr
  cases hq:isQuiet o with
  | true =>
    rw [hq] at hr
    simp only [cond_true] at hr
    refine (Eff.of_pure (K:=fun v s=>some (v,s)) hR (evPure_sound hcx.ok hR hr)).opOk next Q fun Y st' μ' v w' e h1 h2 h3 h4=>?_
    cases e
    exact hn μ' v w' h1 h2 h4
  | false =>
    rw [hq] at hr
    simp only [cond_false] at hr
    refine evOp_sound hcx (ptrInl_ok hcx) hR hr next Q fun Y st' μ' v w' e h1 h2 h3 h4=>?_
    cases e
    exact hn μ' v w' h1 h2 h4
end
end Go.Proofs.YtnohkcklakipoaaGreatDoor.Ev
namespace Go.Proofs.YtnohkcklakipoaaGreatDoor.Ev
open Go Go.RowKit
set_option linter.unusedVariables false
set_option linter.unusedSimpArgs false
variable {ρ:Type}
structure EvoQ (μ:Lie) (bl:List Blk) (μ':Lie) (bl':List Blk):Prop where
  len:bl.length≤bl'.length
  var:∀ (b:Nat) (cs:List A),b<bl.length→bl'[b]? = some (.var cs)→(∃ cs',bl[b]? = some (.var cs'))∧μ' b=μ b
  arr:∀ (b g:Nat) (own nf:Bool) (t:Ty) (l:List t.den),b<bl.length→bl'[b]? = some (.arr g own nf t l) →
    ∃ (g':Nat) (own' nf':Bool) (l':List t.den),bl[b]? = some (.arr g' own' nf' t l')∧g'≤g∧(g'=g→l'.length=l.length∧μ' b=μ b)
theorem Evo.q {w w':World} {μ μ':Lie} {bl bl':List Blk} (h:Evo w μ bl w' μ' bl'):EvoQ μ bl μ' bl':=⟨h.len,h.var,h.arr⟩
theorem EvoQ.refl (μ:Lie) (bl:List Blk):EvoQ μ bl μ bl:=⟨Nat.le_refl _,fun _ cs _ h=>⟨⟨cs,h⟩,rfl⟩,fun _ g own nf t l _ h=>⟨g,own,nf,l,h,Nat.le_refl _,fun _=>⟨rfl,rfl⟩⟩⟩
theorem EvoQ.trans {μ μ' μ'':Lie} {bl bl' bl'':List Blk} (h:EvoQ μ bl μ' bl') (h':EvoQ μ' bl' μ'' bl''):EvoQ μ bl μ'' bl'':=by
  refine ⟨Nat.le_trans h.len h'.len,fun b cs hb hcs=>?_,fun b g own nf t l hb hbl=>?_⟩
  · obtain ⟨⟨c1,h1⟩,e1⟩:=h'.var b cs (Nat.lt_of_lt_of_le hb h.len) hcs
    obtain ⟨h2,e2⟩:=h.var b c1 hb h1
    exact ⟨h2,e1.trans e2⟩
  · obtain ⟨g1,own1,nf1,l1,h1,hg1,e1⟩:=h'.arr b g own nf t l (Nat.lt_of_lt_of_le hb h.len) hbl
    obtain ⟨g2,own2,nf2,l2,h2,hg2,e2⟩:=h.arr b g1 own1 nf1 t l1 hb h1
    refine ⟨g2,own2,nf2,l2,h2,Nat.le_trans hg2 hg1,fun e=>?_⟩
    obtain rfl:g2=g1:=by omega
    obtain ⟨a1,b1⟩:=e1 e
    obtain ⟨a2,b2⟩:=e2 rfl
    exact ⟨a2.trans a1,b1.trans b2⟩
section
variable {E E':Env} {w0 w w':World} {μ μ':Lie} {bl bl':List Blk} {st:St} {a:Act}
theorem EvoQ.isPtr (h:EvoQ μ bl μ' bl') {b off:Nat} {v:Value} (hp:isPtr μ bl b off v):isPtr μ' bl' b off v:=by
  refine ⟨⟨hp.1.1,Nat.lt_of_lt_of_le hp.1.2 h.len⟩,fun cs hcs=>?_⟩
  obtain ⟨⟨cs',hcs'⟩,hμ⟩:=h.var b cs hp.1.2 hcs
  rw [hμ];exact hp.2 cs' hcs'
structure Ext (E E':Env) (w w':World) (μ μ':Lie) (bl bl':List Blk):Prop where
  q:EvoQ μ bl μ' bl'
  D:∀ (fr:Bool) (k:Nat),E.D μ bl fr k→k<w.heap.size→E'.D μ' bl' fr k∧w'.heap[k]? = w.heap[k]?
  O:∀ k:Nat,E.O μ bl k→k<w.heap.size→E'.O μ' bl' k∧w'.heap[k]? = w.heap[k]?
theorem Ext.rep (h:Ext E E' w w' μ μ' bl bl'):∀ {x:A} {v:Value},RepA E w μ bl x v→RepA E' w' μ' bl' x v
  | .undef,_,hr=>hr
  | .int _ _,_,hr=>hr
  | .bool _,_,hr=>hr
  | .str _,_,hr=>hr
  | .err _,_,hr=>hr
  | .sl fr t l,v,hr=>Holds.mono (fun k hk hlt=>h.D fr k hk hlt) (t:=.slice t) hr
  | .pp fr t x off,v,hr=>by
    obtain ⟨blk,base,cs,hv,hd,hh,hc⟩:=hr
    have hlen:=hh.length
    have hpos:=t.size_pos
    have hblk:blk<w.heap.size:=by
      cases cs with
      | nil=>simp at hlen;omega
      | cons c r=>exact cell_block (hc 0 c rfl)
    have hD:=h.D fr blk hd hblk
    exact ⟨blk,base,cs,hv,hD.1,hh.mono (h.D fr),fun j c hj=>(cell_same hD.2 _).trans (hc j c hj)⟩
  | .os b g,v,hr=>by
    refine ⟨⟨hr.1.1,Nat.lt_of_lt_of_le hr.1.2 h.q.len⟩,fun g' own nf t l hb=>?_⟩
    obtain ⟨g0,own0,nf0,l0,hb0,hg,he⟩:=h.q.arr b g' own nf t l hr.1.2 hb
    obtain ⟨h1,h2⟩:=hr.2 _ _ _ _ _ hb0
    refine ⟨Nat.le_trans h1 hg,fun e=>?_⟩
    subst e
    obtain rfl:g=g0:=by omega
    obtain ⟨e1,e2⟩:=he rfl
    rw [e2,← e1];exact h2 rfl
  | .ptr b off,v,hr=>h.q.isPtr hr
  | .ep b g i off,v,hr=>by
    refine ⟨⟨hr.1.1,Nat.lt_of_lt_of_le hr.1.2 h.q.len⟩,fun g' own nf t l hb=>?_⟩
    obtain ⟨g0,own0,nf0,l0,hb0,hg,he⟩:=h.q.arr b g' own nf t l hr.1.2 hb
    obtain ⟨h1,h2⟩:=hr.2 _ _ _ _ _ hb0
    refine ⟨Nat.le_trans h1 hg,fun e=>?_⟩
    subst e
    obtain rfl:g=g0:=by omega
    obtain ⟨e1,e2⟩:=he rfl
    rw [e2,← e1];exact h2 rfl
  | .fn f caps,v,hr=>by
    obtain ⟨vs,hv,hc⟩:=hr
    exact ⟨vs,hv,hc.imp fun _ _ hp=>h.q.isPtr hp⟩
  | .nil t,_,hr=>hr
  | .old t l,v,hr=>Holds.mono (fun k hk hlt=>h.O k hk hlt) (t:=.slice t) hr
theorem Ext.reps (h:Ext E E' w w' μ μ' bl bl'):∀ {cs:List A} {vs:List Value},RepAs E w μ bl cs vs→RepAs E' w' μ' bl' cs vs
  | [],[],_=>trivial
  | [],_ :: _,hr=>hr.elim
  | _ :: _,[],hr=>hr.elim
  | c :: cs,v :: vs,hr=>⟨h.rep hr.1,Ext.reps h hr.2⟩
theorem Ext.repV (h:Ext E E' w w' μ μ' bl bl'):∀ {x:V} {v:Value},RepV E w μ bl x v→RepV E' w' μ' bl' x v
  | .at .undef,v,hr=>trivial
  | .at (.int _ _),_,hr=>hr
  | .at (.bool _),_,hr=>hr
  | .at (.str _),_,hr=>hr
  | .at (.err _),_,hr=>hr
  | .at (.sl fr t l),v,hr=>h.rep (x:=.sl fr t l) hr
  | .at (.os b g),v,hr=>h.rep (x:=.os b g) hr
  | .at (.ptr b off),v,hr=>h.rep (x:=.ptr b off) hr
  | .at (.ep b g i off),v,hr=>h.rep (x:=.ep b g i off) hr
  | .at (.pp fr t x off),v,hr=>h.rep (x:=.pp fr t x off) hr
  | .at (.fn f caps),v,hr=>h.rep (x:=.fn f caps) hr
  | .at (.nil t),_,hr=>hr
  | .at (.old t l),v,hr=>h.rep (x:=.old t l) hr
  | .agg cs,v,hr=>by obtain ⟨vs,e,hc⟩:=hr;exact ⟨vs,e,h.reps hc⟩
  | .tup xs,v,hr=>by
    obtain ⟨vs,e,hc⟩:=hr
    refine ⟨vs,e,All2.imp (fun x u hx=>?_) hc⟩
    obtain ⟨ag,cs⟩:=x
    cases ag with
    | true=>obtain ⟨us,e,hu⟩:=hx;exact ⟨us,e,h.reps hu⟩
    | false=>exact h.reps hx
theorem Ext.repB (h:Ext E E' w w' μ μ' bl bl') {b:Nat} {blk:Blk} (hμ:μ' b=μ b) (hk:∀ k c,μ b=some (k,c)→w'.heap[k]? = w.heap[k]? ∧ (E.N k→E'.N k)) (hr:RepB E w μ bl b blk):RepB E' w' μ' bl' b blk:=by
  cases blk with
  | var cs =>
    obtain ⟨k,c,vals,ty,fz,h1,h2,h3,h4,h5⟩:=hr
    exact ⟨k,c,vals,ty,fz,hμ.trans h1,(hk k c h1).2 h2,(hk k c h1).1.trans h3,h4,h.reps h5⟩
  | arr g own nf t l =>
    rcases hr with ⟨h1,h2⟩ | ⟨k,cap,vals,ty,fz,h1,h2,h3,h4,h5,h6,h7⟩
    · exact Or.inl ⟨hμ.trans h1,h2⟩
    · exact Or.inr ⟨k,cap,vals,ty,fz,hμ.trans h1,(hk k cap h1).2 h2,(hk k cap h1).1.trans h3,h4,h5,h6,h7.mono (h.D nf)⟩
  | dead=>trivial
def Env.less (E:Env) (k:Nat):Env:=⟨max E.B (k+1),fun j=>E.N j∧j≠k,fun j hj=>⟨E.hN j (by omega),by omega⟩,fun j=>E.S0 j∧j≠k,E.G⟩
theorem less_comm (E:Env) (a b:Nat):(E.less a).less b=(E.less b).less a:=by
  unfold Env.less
  simp only [Env.mk.injEq]
  exact ⟨by omega,funext fun j=>propext ⟨fun ⟨⟨h1,h2⟩,h3⟩=>⟨⟨h1,h3⟩,h2⟩,fun ⟨⟨h1,h2⟩,h3⟩=>⟨⟨h1,h3⟩,h2⟩⟩,funext fun j=>propext ⟨fun ⟨⟨h1,h2⟩,h3⟩=>⟨⟨h1,h3⟩,h2⟩,fun ⟨⟨h1,h2⟩,h3⟩=>⟨⟨h1,h3⟩,h2⟩⟩,trivial⟩
theorem less_apart {k:Nat} (h:(E.less k).Apart w0 w):E.Apart w0 w :=
  ⟨h.os,h.tape,h.output,h.size,fun j hj hn=>h.block j hj fun q=>hn q.1⟩
theorem apart_less {k:Nat} (hk:w0.heap.size≤k) (h:E.Apart w0 w):(E.less k).Apart w0 w :=
  ⟨h.os,h.tape,h.output,h.size,fun j hj hn=>h.block j hj fun q=>hn ⟨q,by omega⟩⟩
theorem Rel.less (hR:Rel E w0 μ st a w) (o:Obj):Rel (E.less w.heap.size) w0 μ st a { w with heap:=w.heap.push o }:=by
  have hb:=below_push w o
  have hw0:=hR.mem.below.size
  have hx:Ext E (E.less w.heap.size) w { w with heap:=w.heap.push o } μ μ st.bl st.bl:=by
    refine ⟨EvoQ.refl _ _,fun fr k hk hlt=>⟨⟨?_,hk.2⟩,hb.block k hlt⟩,fun k hk hlt=>⟨⟨⟨fun q=>?_,hk.1.2,by omega⟩,hk.2⟩,hb.block k hlt⟩⟩
    · rcases hk.1 with q | ⟨q1,q2⟩
      · exact Or.inl ⟨q,by omega⟩
      · exact Or.inr ⟨q1,q2,by omega⟩
    · exact hk.1.1 q.1
  obtain ⟨τ,hτ⟩:=hR.tree
  refine ⟨⟨fun w' hw'=>hR.mem.start w' (less_apart hw'),apart_less hw0 (hR.mem.below.trans (.below hb)),by have:=hR.mem.big;show max E.B (w.heap.size+1)≤(w.heap.push o).size;simp only [Array.size_push];omega,fun b blk hbl=>?_,hR.mem.apart⟩,All2.imp (fun _ _ h=>hx.repV h) hR.slots,hR.defers,τ,fun b g t l hbl=>?_,fun b hT k hk=>?_,hτ.nodup,hτ.apart⟩
  · cases blk with
    | dead=>trivial
    | var cs =>
      refine hx.repB rfl (fun k c hk=>?_) (hR.mem.blocks b _ hbl)
      have hlt:=hR.mem.lt (by simp [alive,hbl]) hk
      exact ⟨hb.block k hlt,fun q=>⟨q,by omega⟩⟩
    | arr g own nf t l =>
      refine hx.repB rfl (fun k c hk=>?_) (hR.mem.blocks b _ hbl)
      have hlt:=hR.mem.lt (by simp [alive,hbl]) hk
      exact ⟨hb.block k hlt,fun q=>⟨q,by omega⟩⟩
  · exact (hτ.nest b g t l hbl).mono (fun k hk=>hb.block k (hτ.new b ⟨g,t,l,hbl⟩ k hk).2.1) fun k c hk=>hb.block k (hR.mem.lt (by unfold alive;rw [hbl];trivial) hk)
  · obtain ⟨h1,h2,h3⟩:=hτ.new b hT k hk
    exact ⟨⟨h1,by omega⟩,Nat.lt_of_lt_of_le h2 hb.size,h3⟩
theorem Mem.ownN' {bl:List Blk} (hm:Mem E w0 w μ bl) {k:Nat} (ho:Own μ bl k):E.N k:=by
  obtain ⟨b,c,h1,h2⟩:=ho
  unfold Ev.mine at h2
  split at h2
  · next cs hb =>
    obtain ⟨k',c',vals,ty,fz,q1,q2,_⟩:=hm.blocks b _ hb
    rw [h1] at q1;cases q1;exact q2
  · next g own nf t l hb =>
    rcases hm.blocks b _ hb with ⟨q1,_⟩ | ⟨k',cap,vals,ty,fz,q1,q2,_⟩
    · rw [h1] at q1;cases q1
    · rw [h1] at q1;cases q1;exact q2
  · exact h2.elim
theorem less_not {k:Nat}:¬ (E.less k).N k:=fun h=>h.2 rfl
theorem Rel.adopt {k:Nat} (hR:Rel (E.less k) w0 μ st a w) (hB:E.N k) (hw0:w0.heap.size≤k) {ty:Ty} {tid:TypeId} {fz:Nat × Nat} {d:Nat} (hk:w.heap[k]? = some (.cells (zeroVals ty).toArray tid fz)) (hfz:unfrozen (zeroVals ty).toArray fz)
    (hd:∀ v,a.tmps[d]? = some v→v = .pointer (some ⟨k,0,none⟩)):∃ μ',Rel E w0 μ' (grownSt ty d st) a w∧EvoQ μ st.bl μ' (grownSt ty d st).bl∧(∀ j,Own μ' (grownSt ty d st).bl j→Own μ st.bl j∨j=k)∧∀ b,b<st.bl.length→(grownSt ty d st).bl[b]? = st.bl[b]?:=by
  obtain ⟨μ1,m1,e1,r1,t1⟩:=openRows_sound (E:=E.less k) _ _ st.bl μ hR.mem hR.tree (zero_rep ty)
  generalize hbl1:st.bl++(openRows (zeroCells ty) st.bl.length).2=bl1 at m1 e1 r1 t1
  have hn:bl1.length=st.bl.length+(openRows (zeroCells ty) st.bl.length).2.length:=by rw [← hbl1];simp
  have hkB:(E.less k).B≤w.heap.size:=m1.big
  have hkB:max E.B (k+1)≤w.heap.size:=hkB
  have hkw:k<w.heap.size:=by omega
  have hnot:∀ j,(E.less k).N j→j≠k:=fun j hj e=>less_not (E:=E) (e ▸ hj)
  have hown1:∀ j,Own μ1 bl1 j→j≠k:=fun j hj=>hnot j (m1.ownN' hj)
  have hget:∀ b,b<bl1.length→(bl1++[.var (openRows (zeroCells ty) st.bl.length).1])[b]? = bl1[b]?:=fun b hlt=>by rw [getElem?_snoc,if_pos hlt]
  have hq:EvoQ μ1 bl1 (μ1.put bl1.length (some (k,0))) (bl1++[.var (openRows (zeroCells ty) st.bl.length).1]):=by
    refine ⟨by simp,fun b cs hlt hcs=>?_,fun b g own nf t l hlt hbl=>?_⟩
    · rw [hget b hlt] at hcs
      exact ⟨⟨cs,hcs⟩,Lie.put_ne _ _ (by omega)⟩
    · rw [hget b hlt] at hbl
      exact ⟨g,own,nf,l,hbl,Nat.le_refl _,fun _=>⟨rfl,Lie.put_ne _ _ (by omega)⟩⟩
  have hown2:∀ j,Own (μ1.put bl1.length (some (k,0))) (bl1++[.var (openRows (zeroCells ty) st.bl.length).1]) j→Own μ1 bl1 j∨j=k:=by
    rintro j ⟨b,c,h1,h2⟩
    by_cases e:b=bl1.length
    · subst e;rw [Lie.put_same] at h1;cases h1;exact Or.inr rfl
    · rw [Lie.put_ne _ _ e] at h1
      have hlt:b<bl1.length:=by
        have:=alive_lt (mine_alive h2)
        simp at this;omega
      exact Or.inl ⟨b,c,h1,by unfold mine at h2 ⊢;rwa [hget b hlt] at h2⟩
  have hx:Ext (E.less k) E w w μ1 (μ1.put bl1.length (some (k,0))) bl1 (bl1++[.var (openRows (zeroCells ty) st.bl.length).1]):=by
    refine ⟨hq,fun fr j hj hlt=>⟨⟨?_,fun ho=>?_⟩,rfl⟩,fun j hj hlt=>⟨⟨⟨fun q=>hj.1.1 ?_,hj.1.2.1⟩,fun ho=>?_⟩,rfl⟩⟩
    · rcases hj.1 with q | ⟨q1,q2⟩
      · exact Or.inl q.1
      · exact Or.inr ⟨q1,q2.1⟩
    · rcases hown2 j ho with q | q
      · exact hj.2 q
      · rcases hj.1 with q2 | ⟨_,q2⟩
        · exact hnot j q2 q
        · exact q2.2 q
    · exact ⟨q,hj.1.2.2⟩
    · rcases hown2 j ho with q | q
      · exact hj.2 q
      · exact hj.1.2.2 q
  have hNN:∀ j,(E.less k).N j→E.N j:=fun j hj=>hj.1
  have hμk:∀ b c,μ1 b=some (k,c)→alive bl1 b→False:=by
    intro b c h1 h2
    cases hbb:bl1[b]? with
    | none=>unfold alive at h2;rw [hbb] at h2;exact h2
    | some blk =>
      have hr:=m1.blocks b blk hbb
      cases blk with
      | dead=>unfold alive at h2;rw [hbb] at h2;exact h2
      | var cs =>
        obtain ⟨k',c',vals,ty',fz',q1,q2,_⟩:=hr
        rw [h1] at q1;cases q1;exact less_not q2
      | arr g own nf t l =>
        rcases hr with ⟨q1,_⟩ | ⟨k',c',vals,ty',fz',q1,q2,_⟩
        · rw [h1] at q1;cases q1
        · rw [h1] at q1;cases q1;exact less_not q2
  have hm2:Mem E w0 w (μ1.put bl1.length (some (k,0))) (bl1++[.var (openRows (zeroCells ty) st.bl.length).1]):=by
    refine ⟨fun w' hw'=>m1.start w' (apart_less hw0 hw'),less_apart m1.below,by omega,fun b blk hbl=>?_,fun b b' j c c' h1 h2 a1 a2=>?_⟩
    · rw [getElem?_snoc] at hbl
      split at hbl
      · next hlt=>exact hx.repB (Lie.put_ne _ _ (by omega)) (fun j c hj=>⟨rfl,hNN j⟩) (m1.blocks b blk hbl)
      · split at hbl
        · next e =>
          subst e;cases hbl
          exact ⟨k,0,(zeroVals ty).toArray,tid,fz,Lie.put_same _ _ _,hB,hk,hfz,by simpa using hx.reps r1⟩
        · cases hbl
    · have hal:∀ b,b≠bl1.length→alive (bl1++[.var (openRows (zeroCells ty) st.bl.length).1]) b→alive bl1 b:=by
        intro b hb ha
        have hlt:b<bl1.length:=by
          have:=alive_lt ha
          simp at this;omega
        unfold alive at ha ⊢;rwa [hget b hlt] at ha
      by_cases e:b=bl1.length <;> by_cases e':b'=bl1.length
      · omega
      · subst e
        rw [Lie.put_same] at h1;cases h1
        rw [Lie.put_ne _ _ e'] at h2
        exact (hμk b' c' h2 (hal b' e' a2)).elim
      · subst e'
        rw [Lie.put_same] at h2;cases h2
        rw [Lie.put_ne _ _ e] at h1
        exact (hμk b c h1 (hal b e a1)).elim
      · rw [Lie.put_ne _ _ e] at h1
        rw [Lie.put_ne _ _ e'] at h2
        exact m1.apart b b' j c c' h1 h2 (hal b e a1) (hal b' e' a2)
  have ht2:Trees E w (μ1.put bl1.length (some (k,0))) (bl1++[.var (openRows (zeroCells ty) st.bl.length).1]):=by
    obtain ⟨τ,hτ⟩:=t1
    have hT:∀ b,Tree (bl1++[.var (openRows (zeroCells ty) st.bl.length).1]) b→Tree bl1 b∧b≠bl1.length:=by
      rintro b ⟨g,t,l,q⟩
      rw [getElem?_snoc] at q
      split at q
      · next hlt=>exact ⟨⟨g,t,l,q⟩,by omega⟩
      · split at q <;> cases q
    refine ⟨τ,fun b g t l hb=>?_,fun b hb j hj=>?_,fun b hb=>hτ.nodup b (hT b hb).1,fun b b' hb hb'=>hτ.apart b b' (hT b hb).1 (hT b' hb').1⟩
    · rw [Lie.put_ne _ _ (hT b ⟨g,t,l,hb⟩).2]
      obtain ⟨⟨g',t',l',q⟩,hne⟩:=hT b ⟨g,t,l,hb⟩
      rw [getElem?_snoc,if_neg hne] at hb
      split at hb
      · exact hτ.nest b g t l hb
      · cases hb
    · obtain ⟨h1,h2,h3⟩:=hτ.new b (hT b hb).1 j hj
      refine ⟨hNN j h1,h2,fun ho=>?_⟩
      rcases hown2 j ho with q | q
      · exact h3 q
      · exact hnot j h1 q
  have hext:st.bl++extOf ty st.bl.length=bl1++[.var (openRows (zeroCells ty) st.bl.length).1]:=by rw [extOf,← List.append_assoc,hbl1]
  have hgb:(grownSt ty d st).bl=bl1++[.var (openRows (zeroCells ty) st.bl.length).1]:=by
    rw [grownSt,St.put_bl];exact hext
  have hq0:EvoQ μ st.bl μ1 bl1:=⟨e1.len,e1.var,e1.arr⟩
  have hqq:EvoQ μ st.bl (μ1.put bl1.length (some (k,0))) (bl1++[.var (openRows (zeroCells ty) st.bl.length).1]):=hq0.trans hq
  refine ⟨μ1.put bl1.length (some (k,0)),⟨by rw [hgb];exact hm2,?_,hR.defers,by rw [hgb];exact ht2⟩,by rw [hgb];exact hqq,fun j hj=>?_,fun b hb=>?_⟩
  · rw [hgb]
    show All2 _ (st.tmps.set d (newPtr ty st.bl.length)) a.tmps.toList
    have hold:All2 (RepV E w (μ1.put bl1.length (some (k,0))) (bl1++[.var (openRows (zeroCells ty) st.bl.length).1])) st.tmps a.tmps.toList:=All2.imp (fun _ _ h=>hx.repV (e1.repV h)) hR.slots
    refine All2.of_get (by simpa using hold.length) fun i y v hy hv=>?_
    rw [List.getElem?_set] at hy
    split at hy
    · next e =>
      subst e
      split at hy
      · cases hy
        rw [Array.getElem?_toList] at hv
        cases hd _ hv
        refine ⟨⟨rfl,by simp;omega⟩,fun cs hb=>⟨k,0,?_,rfl⟩⟩
        rw [← hn,Lie.put_same]
      · cases hy
    · obtain ⟨v',h1,h2⟩:=hold.get hy
      rw [hv] at h1;cases h1;exact h2
  · rw [hgb] at hj
    rcases hown2 j hj with q | q
    · rcases Nat.lt_or_ge j w.heap.size with hlt | hge
      · exact Or.inl (e1.own j q hlt)
      · obtain ⟨b,c,h1,h2⟩:=q
        have:=m1.lt (mine_alive h2) h1
        omega
    · exact Or.inr q
  · rw [hgb,getElem?_snoc,if_pos (by omega),← hbl1,List.getElem?_append_left hb]
end
end Go.Proofs.YtnohkcklakipoaaGreatDoor.Ev
namespace Go.Proofs.YtnohkcklakipoaaGreatDoor.Ev
open Go Go.RowKit
set_option linter.unusedVariables false
set_option linter.unusedSimpArgs false
variable {ρ:Type}
section
variable {P:Program} {cx:Cx} {E:Env} {w0 w:World} {μ:Lie} {st:St} {a:Act}
structure FitN (all:List Oper) (st:St) (X:Nat→V) (L:Nat→Bool) (s:St):Prop where
  bl:s.bl=st.bl
  lock:s.lock=st.lock
  len:s.tmps.length=st.tmps.length
  get:∀ t,t<st.tmps.length→s.tmps[t]? = (match writer all t with
    | some j=>if L j=true then some (X j) else st.tmps[t]?
    | none=>st.tmps[t]?)
theorem FitN.same {all:List Oper} {X:Nat→V} {L:Nat→Bool} {s s':St} (h:FitN all st X L s) (h':FitN all st X L s'):s=s':=by
  have:s.tmps=s'.tmps:=by
    apply List.ext_getElem?
    intro t
    rcases Nat.lt_or_ge t st.tmps.length with q | q
    · rw [h.get t q,h'.get t q]
    · rw [List.getElem?_eq_none (by rw [h.len];exact q),List.getElem?_eq_none (by rw [h'.len];exact q)]
  cases s;cases s'
  have h1:=h.bl;have h2:=h'.bl;have h3:=h.lock;have h4:=h'.lock
  simp only at this h1 h2 h3 h4
  subst this h1 h3
  rw [h2,h4]
theorem FitN.congr {all:List Oper} {X X':Nat→V} {L L':Nat→Bool} {s:St} (h:FitN all st X L s) (hL:∀ j,j<all.length→L j=L' j∧(L j=true→X j=X' j)):FitN all st X' L' s:=by
  refine ⟨h.bl,h.lock,h.len,fun t ht=>?_⟩
  rw [h.get t ht]
  split
  · next j hj =>
    obtain ⟨o,ho,_⟩:=writer_some hj
    obtain ⟨h1,h2⟩:=hL j (lt_get ho)
    rw [← h1]
    split
    · next q=>rw [h2 q]
    · rfl
  · rfl
theorem FitN.put {all:List Oper} {X:Nat→V} {L:Nat→Bool} {s:St} (h:FitN all st X L s) {i:Nat} {o:Oper} (ho:all[i]? = some o) (hw:∀ d,o.dst=some d→writer all d=some i) :
    FitN all st X (fun j=>L j||j == i) (s.put o.dst (X i)):=by
  cases hd:o.dst with
  | none =>
    refine ⟨h.bl,h.lock,h.len,fun t ht=>?_⟩
    show s.tmps[t]? = _
    rw [h.get t ht]
    split
    · next j hj =>
      obtain ⟨o',ho',hd'⟩:=writer_some hj
      have:j≠i:=by rintro rfl;rw [ho] at ho';cases ho';rw [hd] at hd';cases hd'
      have e:(j == i)=false:=by simpa using this
      simp only [e,Bool.or_false]
    · rfl
  | some d =>
    have hwd:=hw d hd
    refine ⟨h.bl,h.lock,by simpa [St.put] using h.len,fun t ht=>?_⟩
    show (s.tmps.set d (X i))[t]? = _
    by_cases e:t=d
    · subst e
      rw [hwd]
      simp only [beq_self_eq_true,Bool.or_true,if_true]
      rw [List.getElem?_set_self (by rw [h.len];exact ht)]
    · rw [List.getElem?_set_ne (by omega),h.get t ht]
      split
      · next j hj =>
        obtain ⟨o',ho',hd'⟩:=writer_some hj
        have:j≠i:=by rintro rfl;rw [ho] at ho';cases ho';rw [hd] at hd';cases hd';exact e rfl
        have e:(j == i)=false:=by simpa using this
        simp only [e,Bool.or_false]
      · rfl
theorem FitN.with_bl {all:List Oper} {X:Nat→V} {L:Nat→Bool} {s:St} (h:FitN all st X L s) (b:List Blk):FitN all { st with bl:=b } X L { s with bl:=b }:=⟨rfl,h.lock,h.len,h.get⟩
theorem floats_spec {all:List Oper} (hd:DrawOk all):∀ (rest:List Oper) (acc:List Bool),all.drop acc.length=rest→(∀ (i:Nat) (o:Oper),i<acc.length→all[i]? = some o→acc.getD i false=(isQuiet o&&(edges o).all fun e=>acc.getD e false||loose all o e)) →
    (floats all rest acc).length=acc.length+rest.length∧∀ (i:Nat) (o:Oper),all[i]? = some o→(floats all rest acc).getD i false=(isQuiet o&&(edges o).all fun e=>(floats all rest acc).getD e false||loose all o e)
  | [],acc,h,ha=>by
    refine ⟨by simp [floats],fun i o ho=>ha i o ?_ ho⟩
    have:=lt_get ho
    have h2:=congrArg List.length h
    simp at h2
    omega
  | o :: rest,acc,h,ha=>by
    have ho:all[acc.length]? = some o:=by
      have:=congrArg (fun l=>l[0]?) h
      simpa using this
    have old:∀ (b:Bool) (e:Nat),e<acc.length→(acc++[b]).getD e false=acc.getD e false:=by
      intro b e he
      rw [List.getD_eq_getElem?_getD,List.getD_eq_getElem?_getD,List.getElem?_append_left he]
    have olds:∀ (b:Bool) (i:Nat) (o':Oper),i≤acc.length→all[i]? = some o'→((edges o').all fun e=>(acc++[b]).getD e false||loose all o' e)=(edges o').all fun e=>acc.getD e false||loose all o' e:=by
      intro b i o' hi ho'
      rw [Bool.eq_iff_iff,List.all_eq_true,List.all_eq_true]
      constructor <;> intro hh e he
      · obtain ⟨e',he',hbnd,rfl⟩:=edges_mem he
        have:=hd.back i o' ho' e' he' hbnd
        rw [← old b _ (by omega)];exact hh _ he
      · obtain ⟨e',he',hbnd,rfl⟩:=edges_mem he
        have:=hd.back i o' ho' e' he' hbnd
        rw [old b _ (by omega)];exact hh _ he
    obtain ⟨p1,p2⟩:=floats_spec hd rest (acc++[isQuiet o&&(edges o).all fun e=>acc.getD e false||loose all o e]) (by have:=congrArg List.tail h;simpa using this) (fun i o' hi ho'=>by
      have hi:i≤acc.length:=by simp at hi;omega
      rw [olds _ i o' hi ho']
      rcases Nat.lt_or_ge i acc.length with q | q
      · rw [old _ i q,ha i o' q ho']
      · have:i=acc.length:=by omega
        subst this
        rw [ho] at ho'
        cases ho'
        rw [List.getD_eq_getElem?_getD,List.getElem?_append_right (Nat.le_refl _),Nat.sub_self]
        rfl)
    refine ⟨?_,p2⟩
    show (floats all rest (acc++[_])).length=_
    rw [p1]
    simp
    omega
theorem chain_spec:∀ (l:List (Bool × Nat)) (i acc:Nat),chainOk l i acc=true→∀ (n:Nat) (k:Nat),l[n]? = some (false,k)→(∀ b,acc.testBit b=true→k.testBit b=true)∧∀ m k',m<n→l[m]? = some (false,k')→k.testBit (i+m)=true
  | [],i,acc,h,n,k,hn=>by simp at hn
  | (f,k0) :: r,i,acc,h,n,k,hn=>by
    unfold chainOk at h
    cases f with
    | true =>
      simp only [cond_true] at h
      cases n with
      | zero=>simp at hn
      | succ n =>
        obtain ⟨h1,h2⟩:=chain_spec r (i+1) acc h n k (by simpa using hn)
        refine ⟨h1,fun m k' hm hk'=>?_⟩
        cases m with
        | zero=>simp at hk'
        | succ m =>
          have:=h2 m k' (by omega) (by simpa using hk')
          rwa [show i+1+m=i+(m+1) by omega] at this
    | false =>
      simp only [cond_false,Bool.and_eq_true] at h
      have he:=Nat.eq_of_beq_eq_true h.1
      have hsub:∀ b,acc.testBit b=true→k0.testBit b=true:=by
        intro b hb
        have:=congrArg (fun x=>x.testBit b) he
        simp only [Nat.testBit_and,hb,Bool.and_true] at this
        exact this
      cases n with
      | zero =>
        simp only [List.getElem?_cons_zero,Option.some.injEq,Prod.mk.injEq,true_and] at hn
        subst hn
        exact ⟨hsub,fun m k' hm=>absurd hm (Nat.not_lt_zero _)⟩
      | succ n =>
        obtain ⟨h1,h2⟩:=chain_spec r (i+1) (acc ||| 2 ^ i) h.2 n k (by simpa using hn)
        refine ⟨fun b hb=>h1 b (by rw [Nat.testBit_or,hb,Bool.true_or]),fun m k' hm hk'=>?_⟩
        cases m with
        | zero=>exact h1 i (by rw [Nat.testBit_or,Nat.testBit_two_pow_self,Bool.or_true])
        | succ m =>
          have:=h2 m k' (by omega) (by simpa using hk')
          rwa [show i+1+m=i+(m+1) by omega] at this
def alAt (all:List Oper) (i:Nat):Bool:=match all[i]? with | some o=>isAlloc o | none=>false
theorem alAt_get {all:List Oper} {i:Nat} {o:Oper} (h:all[i]? = some o):alAt all i=isAlloc o:=by unfold alAt;rw [h]
theorem quiet_no_alloc {o:Oper} (h:isAlloc o=true):isQuiet o=false:=by
  unfold isAlloc at h
  split at h
  · next ho=>unfold isQuiet;rw [ho];simp
  · cases h
structure HrOk (cx:Cx) (all:List Oper) (fl:Nat→Bool):Prop where
  draw:DrawOk all
  float:∀ (i:Nat) (o:Oper),all[i]? = some o→fl i=(isQuiet o&&(edges o).all fun e=>fl e||loose all o e)
  chain:∀ (L:Nat→Bool) (i:Nat) (o:Oper),Closed all L→all[i]? = some o→(∀ e∈edges o,L e=true)→(fl i||alAt all i)=false→∀ j,j<i→(fl j||alAt all j)=false→L j=true
  early:∀ (i:Nat) (o:Oper),i<tailAt all→all[i]? = some o→(fl i||alAt all i)=false→isEarly cx o=true
  wait:∀ (L:Nat→Bool) (i j:Nat) (oj:Oper),Closed all L→i<all.length→j<tailAt all→all[j]? = some oj→(∀ e∈edges oj,L e=true)→L i=true∨(((killsOf cx oj).1=true→((lates cx all).getD i (false,[])).1=true)∧∀ n,n∈(killsOf cx oj).2→n∈((lates cx all).getD i (false,[])).2)
theorem lateFrom_get (all:List (Oper × Nat)):∀ (n i j:Nat),j<n→(lateFrom cx all n i).getD j (false,[])=lateOne cx all (i+j)
  | 0,_,_,h=>by omega
  | n+1,i,0,_=>rfl
  | n+1,i,j+1,h=>by
    show (lateFrom cx all n (i+1)).getD j (false,[])=_
    rw [lateFrom_get all n (i+1) j (by omega),show i+1+j=i+(j+1) by omega]
theorem lateOne_mem:∀ (l:List (Oper × Nat)) (i:Nat) (p:Oper × Nat),p∈l→p.2.testBit i=false→((killsOf cx p.1).1=true→(lateOne cx l i).1=true)∧∀ n,n∈(killsOf cx p.1).2→n∈(lateOne cx l i).2
  | [],i,p,h,_=>by cases h
  | q :: l,i,p,h,hb=>by
    rcases List.mem_cons.mp h with rfl | h
    · unfold lateOne
      rw [hb]
      simp only [cond_false]
      exact ⟨fun h=>by rw [h];rfl,fun n hn=>List.mem_append_left _ hn⟩
    · obtain ⟨h1,h2⟩:=lateOne_mem l i p h hb
      unfold lateOne
      cases q.2.testBit i with
      | true=>exact ⟨h1,h2⟩
      | false=>exact ⟨fun h=>by simp only [cond_false,h1 h,Bool.or_true],fun n hn=>List.mem_append_right _ (h2 n hn)⟩
theorem hrOk_sound {all:List Oper} (h:hrOk cx all=true):HrOk cx all (fun i=>(floats all all []).getD i false):=by
  unfold hrOk at h
  rw [Bool.and_eq_true,Bool.and_eq_true] at h
  obtain ⟨h1,h2,h3⟩:=h
  have hd:=drawCore_sound h1
  obtain ⟨f1,f2⟩:=floats_spec hd all [] rfl (fun i o hi=>by simp at hi)
  obtain ⟨m1,m2⟩:=masks_sure hd all [] rfl (fun i k h=>by simp at h)
  have hfl:∀ i,i<all.length→(skips all)[i]? = some ((floats all all []).getD i false||alAt all i):=by
    intro i hi
    have h1:((floats all all []).zip all)[i]? = some ((floats all all []).getD i false,all[i]):=by
      rw [List.getElem?_zip_eq_some]
      exact ⟨by rw [List.getD_eq_getElem?_getD,List.getElem?_eq_getElem (by rw [f1];simpa using hi)];rfl,List.getElem?_eq_getElem hi⟩
    unfold skips
    rw [List.getElem?_map,h1,alAt_get (List.getElem?_eq_getElem hi)];rfl
  refine ⟨hd,f2,fun L i o hc ho hl hfi j hj hfj=>?_,fun i o hi ho hfi=>?_,fun L i j oj hc hi hj hoj hed=>?_⟩
  rotate_left 2
  · obtain ⟨k,hk⟩:∃ k,(masks all [])[j]? = some k:=⟨_,List.getElem?_eq_getElem (by rw [m1];simpa using lt_get hoj)⟩
    have hz:(oj,k)∈(all.take (tailAt all)).zip (masks all []):=by
      refine List.mem_of_getElem? (i:=j) ?_
      rw [List.getElem?_zip_eq_some]
      exact ⟨by rw [List.getElem?_take_of_lt hj];exact hoj,hk⟩
    cases hb:k.testBit i with
    | true=>exact Or.inl (m2 j k hk L oj hc hoj hed i hb)
    | false =>
      right
      cases hno:noKill (killsOf cx oj) with
      | true =>
        unfold noKill at hno
        rw [Bool.and_eq_true,Bool.not_eq_true',List.isEmpty_iff] at hno
        exact ⟨fun h=>by (rw [hno.1] at h;cases h),fun n hn=>by rw [hno.2] at hn;cases hn⟩
      | false =>
        have hany:(all.take (tailAt all)).any (fun o=>!noKill (killsOf cx o))=true:=List.any_eq_true.mpr ⟨oj,List.mem_of_getElem? (i:=j) (by rw [List.getElem?_take_of_lt hj];exact hoj),by rw [hno];rfl⟩
        unfold lates
        rw [hany]
        simp only [cond_true]
        rw [lateFrom_get _ _ _ _ hi,Nat.zero_add]
        exact lateOne_mem _ _ _ hz hb
  · have hil:=lt_get ho
    obtain ⟨k,hk⟩:∃ k,(masks all [])[i]? = some k:=⟨_,List.getElem?_eq_getElem (by rw [m1];simpa using hil)⟩
    obtain ⟨k',hk'⟩:∃ k,(masks all [])[j]? = some k:=⟨_,List.getElem?_eq_getElem (by rw [m1];simp;omega)⟩
    have z1:((skips all).zip (masks all []))[i]? = some (false,k):=by
      rw [List.getElem?_zip_eq_some]
      exact ⟨by rw [hfl i hil,hfi],hk⟩
    have z2:((skips all).zip (masks all []))[j]? = some (false,k'):=by
      rw [List.getElem?_zip_eq_some]
      exact ⟨by rw [hfl j (by omega),hfj],hk'⟩
    have:=(chain_spec _ 0 0 h2 i k z1).2 j k' hj z2
    rw [Nat.zero_add] at this
    exact m2 i k hk L o hc ho hl j this
  · have hil:=lt_get ho
    have z:((skips all).zip (all.take (tailAt all)))[i]? = some (false,o):=by
      rw [List.getElem?_zip_eq_some]
      exact ⟨by rw [hfl i hil,hfi],by rw [List.getElem?_take_of_lt hi];exact ho⟩
    have:=List.all_eq_true.mp h3 _ (List.mem_of_getElem? z)
    simpa using this
def upd (X:Nat→V) (i:Nat) (v:V) (j:Nat):V:=if j=i then v else X j
theorem float_steps {all:List Oper} {fl:Nat→Bool} (ls:List (Bool × List Nat)) (hh:HrOk cx all fl) {m:Nat} {l:List (Bool × Oper)} (hl:∀ (i:Nat) (b:Bool) (o:Oper),l[i]? = some (b,o)→all[i]? = some o∧fl i=b) (hm:l.length=m) {K:St→Option ρ} {r:ρ}:∀ (rest:List (Bool × Oper)) (i:Nat) (s:St) (X:Nat→V),l.drop i=rest →
    FitN all st X (fun j=>decide (j<i)&&fl j) s→evFloat cx (ls.drop i) rest s K=some r→i≤m →
    ∃ (X':Nat→V) (s':St),(∀ j,j<i→X' j=X j)∧FitN all st X' (fun j=>decide (j<m)&&fl j) s'∧K s'=some r ∧
      ∀ (k:Nat) (o:Oper),i≤k→k<m→all[k]? = some o→fl k=true→∃ sk,FitN all st X' (fun j=>decide (j<k)&&fl j) sk∧evPure cx o (lateSt (ls.getD k (false,[])) sk) some=some (X' k)
  | [],i,s,X,hd,hf,h,hi=>by
    have:i=m:=by
      have:=congrArg List.length hd
      simp at this
      omega
    subst this
    exact ⟨X,s,fun _ _=>rfl,hf,h,fun k o h1 h2=>by omega⟩
  | (b,o) :: rest,i,s,X,hd,hf,h,hi=>by
    have hli:l[i]? = some (b,o):=by
      have:=congrArg (fun l=>l[0]?) hd
      simpa using this
    have hd':l.drop (i+1)=rest:=by
      have:=congrArg List.tail hd
      simpa using this
    have him:i<m:=by rw [← hm];exact lt_get hli
    obtain ⟨ho,hfi⟩:=hl i b o hli
    unfold evFloat at h
    rw [forceSt_eq] at h
    have hls:(ls.drop i).headD (false,[])=ls.getD i (false,[]):=by rw [List.getD_eq_getElem?_getD];cases hx:ls[i]? with
      | none=>rw [List.drop_eq_nil_of_le (by simpa using hx)];rfl
      | some x=>rw [List.drop_eq_getElem_cons (lt_get hx)];rw [List.getElem?_eq_getElem (lt_get hx)] at hx;exact Option.some.inj hx
    have hlt:(ls.drop i).tail=ls.drop (i+1):=by rw [List.tail_drop]
    rw [hls,hlt] at h
    cases b with
    | true =>
      simp only [cond_true] at h
      have hq:isQuiet o=true:=by
        have:=hh.float i o ho
        rw [hfi] at this
        exact ((Bool.and_eq_true _ _).mp this.symm).1
      obtain ⟨v,h1,h2⟩:=evPure_det (quiet_kind hq).1 h
      have hf1:FitN all st (upd X i v) (fun j=>decide (j<i)&&fl j) s:=hf.congr fun j _=>⟨rfl,fun q=>by
        have:j<i:=of_decide_eq_true ((Bool.and_eq_true _ _).mp q).1
        unfold upd;rw [if_neg (by omega)]⟩
      have hv:upd X i v i=v:=by unfold upd;rw [if_pos rfl]
      have hf2:=hf1.put ho (hh.draw.dst i o ho)
      rw [hv] at hf2
      have hf3:FitN all st (upd X i v) (fun j=>decide (j<i+1)&&fl j) (s.put o.dst v):=hf2.congr fun j _=>⟨by
        by_cases e:j=i
        · subst e;simp [hfi]
        · have:(j == i)=false:=by simpa using e
          rw [this,Bool.or_false]
          congr 1
          rw [Bool.eq_iff_iff,decide_eq_true_eq,decide_eq_true_eq]
          omega,fun _=>rfl⟩
      obtain ⟨X',s',e1,e2,e3,e4⟩:=float_steps ls hh hl hm rest (i+1) _ _ hd' hf3 h1 him
      refine ⟨X',s',fun j hj=>?_,e2,e3,fun k o' hk hkm ho' hfk=>?_⟩
      · rw [e1 j (by omega)];unfold upd;rw [if_neg (by omega)]
      · rcases Nat.lt_or_ge i k with q | q
        · exact e4 k o' q hkm ho' hfk
        · have:k=i:=by omega
          subst this
          rw [ho] at ho'
          cases ho'
          refine ⟨s,hf1.congr fun j _=>⟨rfl,fun q=>?_⟩,?_⟩
          · have:j<k:=of_decide_eq_true ((Bool.and_eq_true _ _).mp q).1
            rw [e1 j (by omega)]
          · rw [h2 some,e1 k (by omega),hv]
    | false =>
      simp only [cond_false] at h
      have hf3:FitN all st X (fun j=>decide (j<i+1)&&fl j) s:=hf.congr fun j _=>⟨by
        by_cases e:j=i
        · subst e;simp [hfi]
        · congr 1
          rw [Bool.eq_iff_iff,decide_eq_true_eq,decide_eq_true_eq]
          omega,fun _=>rfl⟩
      obtain ⟨X',s',e1,e2,e3,e4⟩:=float_steps ls hh hl hm rest (i+1) _ _ hd' hf3 h him
      refine ⟨X',s',fun j hj=>e1 j (by omega),e2,e3,fun k o' hk hkm ho' hfk=>?_⟩
      rcases Nat.lt_or_ge i k with q | q
      · exact e4 k o' q hkm ho' hfk
      · have:k=i:=by omega
        subst this
        rw [hfi] at hfk;cases hfk
theorem early_steps {all:List Oper} {fl:Nat→Bool} (hh:HrOk cx all fl) {m:Nat} {l:List (Bool × Oper)} (hl:∀ (i:Nat) (b:Bool) (o:Oper),l[i]? = some (b,o)→all[i]? = some o∧fl i=b) (hm:l.length=m) (hmt:m≤tailAt all) {K:St→Option ρ} {r:ρ}:∀ (rest:List (Bool × Oper)) (i:Nat) (s:St) (b0:List Blk) (X:Nat→V),l.drop i=rest →
    FitN all { st with bl:=b0 } X (fun j=>(decide (j<m)&&fl j)||decide (j<i)) s→evEarly cx rest s K=some r→i≤m →
    ∃ (X':Nat→V) (s':St) (B:Nat→List Blk),(∀ j,((decide (j<m)&&fl j)||decide (j<i))=true→X' j=X j)∧FitN all { st with bl:=B m } X' (fun j=>decide (j<m)) s'∧K s'=some r∧B i=b0 ∧
      (∀ k,i≤k→k<m→(fl k||alAt all k)=true→B (k+1)=B k)∧(∀ k,i≤k→k<m→∀ o,all[k]? = some o→Spoilt (killsOf cx o) (B k) (B (k+1)))∧(∀ k,i≤k→k<m→fl k=false→alAt all k=true→X' k=V.undef) ∧
      ∀ (k:Nat) (o:Oper),i≤k→k<m→all[k]? = some o→(fl k||alAt all k)=false→∃ sk,FitN all { st with bl:=B k } X' (fun j=>(decide (j<m)&&fl j)||decide (j<k)) sk∧earlyOp cx o sk=some (X' k,{ sk with bl:=B (k+1) })
  | [],i,s,b0,X,hd,hf,h,hi=>by
    have:i=m:=by
      have:=congrArg List.length hd
      simp at this
      omega
    subst this
    refine ⟨X,s,fun _=>b0,fun _ _=>rfl,hf.congr fun j _=>⟨?_,fun _=>rfl⟩,h,rfl,fun _ _ _ _=>rfl,fun _ _ _ _ _=>Spoilt.refl _ _,fun k h1 h2=>by omega,fun k o h1 h2=>by omega⟩
    cases fl j <;> simp
  | (b,o) :: rest,i,s,b0,X,hd,hf,h,hi=>by
    have hli:l[i]? = some (b,o):=by
      have:=congrArg (fun l=>l[0]?) hd
      simpa using this
    have hd':l.drop (i+1)=rest:=by
      have:=congrArg List.tail hd
      simpa using this
    have him:i<m:=by rw [← hm];exact lt_get hli
    obtain ⟨ho,hfi⟩:=hl i b o hli
    unfold evEarly at h
    rw [forceSt_eq] at h
    cases b with
    | true =>
      simp only [cond_true] at h
      have hf3:FitN all { st with bl:=b0 } X (fun j=>(decide (j<m)&&fl j)||decide (j<i+1)) s:=hf.congr fun j _=>⟨by
        by_cases e:j=i
        · subst e;simp [hfi,him]
        · congr 1
          rw [Bool.eq_iff_iff,decide_eq_true_eq,decide_eq_true_eq]
          omega,fun _=>rfl⟩
      obtain ⟨X',s',B,e1,e2,e3,e4,e5,e6,e8,e7⟩:=early_steps hh hl hm hmt rest (i+1) s b0 X hd' hf3 h him
      obtain ⟨B',hB,hBi⟩:∃ B':Nat→List Blk,(∀ k,k≠i→B' k=B k)∧B' i=b0:=⟨fun k=>if k=i then b0 else B k,fun k h=>if_neg h,if_pos rfl⟩
      refine ⟨X',s',B',fun j hj=>e1 j ?_,?_,e3,hBi,fun k hk hkm hfk=>?_,fun k hk hkm=>?_,fun k hk hkm hfk hak=>?_,fun k o' hk hkm ho' hfk=>?_⟩
      · rw [Bool.or_eq_true] at hj ⊢
        rcases hj with hj | hj
        · exact Or.inl hj
        · exact Or.inr (by simp at hj ⊢;omega)
      · rw [hB _ (by omega)];exact e2
      · rcases Nat.lt_or_ge i k with q | q
        · rw [hB _ (by omega),hB _ (by omega)];exact e5 k q hkm hfk
        · have:k=i:=by omega
          subst this
          rw [hB _ (by omega),hBi];exact e4
      · rcases Nat.lt_or_ge i k with q | q
        · rw [hB _ (by omega),hB _ (by omega)];exact e6 k q hkm
        · have:k=i:=by omega
          subst this
          rw [hBi,hB (k+1) (by omega),e4];exact fun _ _=>Spoilt.refl _ _
      · rcases Nat.lt_or_ge i k with q | q
        · exact e8 k q hkm hfk hak
        · have:k=i:=by omega
          subst this
          rw [hfi] at hfk;cases hfk
      · rcases Nat.lt_or_ge i k with q | q
        · rw [hB _ (by omega),hB _ (by omega)];exact e7 k o' q hkm ho' hfk
        · have:k=i:=by omega
          subst this
          rw [hfi,Bool.true_or] at hfk;cases hfk
    | false =>
      simp only [cond_false] at h
      cases hal:isAlloc o with
      | true =>
        rw [hal] at h
        simp only [cond_true] at h
        have hai:alAt all i=true:=by rw [alAt_get ho];exact hal
        let L:Nat→Bool:=fun j=>(decide (j<m)&&fl j)||decide (j<i)
        have hLi:L i=false:=by simp [L,hfi]
        have hf1:FitN all { st with bl:=b0 } (upd X i V.undef) L s:=hf.congr fun j _=>⟨rfl,fun q=>by
          have:j≠i:=by rintro rfl;rw [show ((decide (j<m)&&fl j)||decide (j<j))=L j from rfl,hLi] at q;cases q
          unfold upd;rw [if_neg this]⟩
        have hv:upd X i V.undef i=V.undef:=by unfold upd;rw [if_pos rfl]
        have hf2:=hf1.put ho (hh.draw.dst i o ho)
        rw [hv] at hf2
        have hf3:FitN all { st with bl:=b0 } (upd X i V.undef) (fun j=>(decide (j<m)&&fl j)||decide (j<i+1)) (s.put o.dst V.undef):=hf2.congr fun j _=>⟨by
          by_cases e:j=i
          · subst e;simp
          · have:(j == i)=false:=by simpa using e
            rw [this,Bool.or_false]
            show ((decide (j<m)&&fl j)||decide (j<i))=_
            congr 1
            rw [Bool.eq_iff_iff,decide_eq_true_eq,decide_eq_true_eq]
            omega,fun _=>rfl⟩
        obtain ⟨X',s',B,e1,e2,e3,e4,e5,e6,e8,e7⟩:=early_steps hh hl hm hmt rest (i+1) _ b0 (upd X i V.undef) hd' hf3 h him
        have hXi:X' i=V.undef:=by rw [e1 i (by simp),hv]
        obtain ⟨B',hB,hBi⟩:∃ B':Nat→List Blk,(∀ k,k≠i→B' k=B k)∧B' i=b0:=⟨fun k=>if k=i then b0 else B k,fun k h=>if_neg h,if_pos rfl⟩
        refine ⟨X',s',B',fun j hj=>?_,?_,e3,hBi,fun k hk hkm hfk=>?_,fun k hk hkm=>?_,fun k hk hkm hfk hak=>?_,fun k o' hk hkm ho' hfk=>?_⟩
        · have hji:j≠i:=by rintro rfl;rw [show ((decide (j<m)&&fl j)||decide (j<j))=L j from rfl,hLi] at hj;cases hj
          rw [e1 j (by
            rw [Bool.or_eq_true] at hj ⊢
            rcases hj with hj | hj
            · exact Or.inl hj
            · exact Or.inr (by simp at hj ⊢;omega))]
          unfold upd;rw [if_neg hji]
        · rw [hB _ (by omega)];exact e2
        · rcases Nat.lt_or_ge i k with q | q
          · rw [hB _ (by omega),hB _ (by omega)];exact e5 k q hkm hfk
          · have:k=i:=by omega
            subst this
            rw [hB _ (by omega),hBi];exact e4
        · rcases Nat.lt_or_ge i k with q | q
          · rw [hB _ (by omega),hB _ (by omega)];exact e6 k q hkm
          · have:k=i:=by omega
            subst this
            rw [hBi,hB (k+1) (by omega),e4];exact fun _ _=>Spoilt.refl _ _
        · rcases Nat.lt_or_ge i k with q | q
          · exact e8 k q hkm hfk hak
          · have:k=i:=by omega
            subst this
            exact hXi
        · rcases Nat.lt_or_ge i k with q | q
          · rw [hB _ (by omega),hB _ (by omega)];exact e7 k o' q hkm ho' hfk
          · have:k=i:=by omega
            subst this
            rw [hai,Bool.or_true] at hfk;cases hfk
      | false =>
      rw [hal] at h
      simp only [cond_false] at h
      have hai:(fl i||alAt all i)=false:=by rw [hfi,alAt_get ho,hal];rfl
      have hearly:=hh.early i o (by omega) ho hai
      obtain ⟨v,b1,h1,h2,h3⟩:=early_det (K:=fun v st=>evEarly cx rest (st.put o.dst v) K) hearly h
      have hsb:s.bl=b0:=hf.bl
      let L:Nat→Bool:=fun j=>(decide (j<m)&&fl j)||decide (j<i)
      have hLi:L i=false:=by simp [L,hfi]
      have hf1:FitN all { st with bl:=b0 } (upd X i v) L s:=hf.congr fun j _=>⟨rfl,fun q=>by
        have:j≠i:=by rintro rfl;rw [show ((decide (j<m)&&fl j)||decide (j<j))=L j from rfl,hLi] at q;cases q
        unfold upd;rw [if_neg this]⟩
      have hv:upd X i v i=v:=by unfold upd;rw [if_pos rfl]
      have hf2:=(hf1.with_bl b1).put ho (hh.draw.dst i o ho)
      rw [hv] at hf2
      have hf3:FitN all { st with bl:=b1 } (upd X i v) (fun j=>(decide (j<m)&&fl j)||decide (j<i+1)) (({ s with bl:=b1 }:St).put o.dst v):=hf2.congr fun j _=>⟨by
        by_cases e:j=i
        · subst e;simp
        · have:(j == i)=false:=by simpa using e
          rw [this,Bool.or_false]
          show ((decide (j<m)&&fl j)||decide (j<i))=_
          congr 1
          rw [Bool.eq_iff_iff,decide_eq_true_eq,decide_eq_true_eq]
          omega,fun _=>rfl⟩
      obtain ⟨X',s',B,e1,e2,e3,e4,e5,e6,e8,e7⟩:=early_steps hh hl hm hmt rest (i+1) _ b1 (upd X i v) hd' hf3 h2 him
      have hXi:X' i=v:=by rw [e1 i (by simp),hv]
      obtain ⟨B',hB,hBi⟩:∃ B':Nat→List Blk,(∀ k,k≠i→B' k=B k)∧B' i=b0:=⟨fun k=>if k=i then b0 else B k,fun k h=>if_neg h,if_pos rfl⟩
      refine ⟨X',s',B',fun j hj=>?_,?_,e3,hBi,fun k hk hkm hfk=>?_,fun k hk hkm=>?_,fun k hk hkm hfk hak=>?_,fun k o' hk hkm ho' hfk=>?_⟩
      · have hji:j≠i:=by rintro rfl;rw [show ((decide (j<m)&&fl j)||decide (j<j))=L j from rfl,hLi] at hj;cases hj
        rw [e1 j (by
          rw [Bool.or_eq_true] at hj ⊢
          rcases hj with hj | hj
          · exact Or.inl hj
          · exact Or.inr (by simp at hj ⊢;omega))]
        unfold upd;rw [if_neg hji]
      · rw [hB _ (by omega)];exact e2
      · rcases Nat.lt_or_ge i k with q | q
        · rw [hB _ (by omega),hB _ (by omega)];exact e5 k q hkm hfk
        · have:k=i:=by omega
          subst this
          rw [hai] at hfk;cases hfk
      · rcases Nat.lt_or_ge i k with q | q
        · rw [hB _ (by omega),hB _ (by omega)];exact e6 k q hkm
        · have:k=i:=by omega
          subst this
          rw [hBi,hB (k+1) (by omega),e4,← hsb];exact fun o' ho'=>by (rw [ho] at ho';cases ho';exact h3)
      · rcases Nat.lt_or_ge i k with q | q
        · exact e8 k q hkm hfk hak
        · have:k=i:=by omega
          subst this
          rw [hak,Bool.or_true] at hai;cases hai
      · rcases Nat.lt_or_ge i k with q | q
        · rw [hB _ (by omega),hB _ (by omega)];exact e7 k o' q hkm ho' hfk
        · have:k=i:=by omega
          subst this
          rw [ho] at ho'
          cases ho'
          refine ⟨s,?_,?_⟩
          · rw [hBi]
            exact hf1.congr fun j _=>⟨rfl,fun q=>(e1 j (by
              have q:((decide (j<m)&&fl j)||decide (j<k))=true:=q
              rw [Bool.or_eq_true] at q ⊢
              rcases q with q | q
              · exact Or.inl q
              · exact Or.inr (by simp at q ⊢;omega))).symm⟩
          · rw [hB _ (by omega),e4,hXi];exact h1
def SS (w0 w:World):Env→List (Nat × Nat × Ty)→(Nat→Bool)→Lie→St→Act→World→Prop
  | E,[],_,μ1,s,a1,w1=>Rel E w0 μ1 s a1 w1
  | E,(i0,d,t) :: als,L,μ1,s,a1,w1=>(L i0=false∧SS w0 w E als L μ1 s a1 w1)∨(L i0=true∧∃ k tid fz,SS w0 w (E.less k) als L μ1 s a1 w1∧w.heap.size≤k∧k<w1.heap.size∧E.N k∧(∀ v,a1.tmps[d]? = some v→v = .pointer (some ⟨k,0,none⟩)) ∧
      w1.heap[k]? = some (.cells (zeroVals t).toArray tid fz)∧unfrozen (zeroVals t).toArray fz)
theorem SS.start {E:Env} {L:Nat→Bool} {μ1:Lie} {s:St} {a1:Act} {w1:World} (h:Rel E w0 μ1 s a1 w1):∀ (als:List (Nat × Nat × Ty)),(∀ x∈als,L x.1=false)→SS w0 w E als L μ1 s a1 w1
  | [],_=>h
  | (i0,d,t) :: als,hl=>Or.inl ⟨hl (i0,d,t) (List.mem_cons_self ..),SS.start h als fun x hx=>hl x (List.mem_cons_of_mem _ hx)⟩
theorem SS.big {L:Nat→Bool} {μ1:Lie} {s:St} {a1:Act} {w1:World}:∀ {E:Env} (als:List (Nat × Nat × Ty)),SS w0 w E als L μ1 s a1 w1→E.B≤w1.heap.size∧a1.tmps.size=s.tmps.length
  | E,[],h=>⟨h.mem.big,by have:=All2.length h.slots;simpa using this.symm⟩
  | E,(i0,d,t) :: als,h=>by
    rcases h with ⟨_,h⟩ | ⟨_,k,tid,fz,h,_⟩
    · exact SS.big als h
    · have:=SS.big als h
      have h1:max E.B (k+1)≤w1.heap.size:=this.1
      exact ⟨by omega,this.2⟩
theorem SS.step {L:Nat→Bool} {μ1:Lie} {s:St} {a1:Act} {w1:World}:∀ {E:Env} (als:List (Nat × Nat × Ty)),cx.good P E.G→SS w0 w E als L μ1 s a1 w1 →
    ∃ E1:Env,cx.good P E1.G∧(∀ j,E1.N j→E.N j)∧Rel E1 w0 μ1 s a1 w1∧∀ (L':Nat→Bool) (μ':Lie) (s':St) (a':Act) (w':World),(∀ i0 d t,(i0,d,t)∈als→L' i0=L i0∧a'.tmps[d]? = a1.tmps[d]?)→Rel E1 w0 μ' s' a' w'→Goes w1 μ1 s w' μ' s'→SS w0 w E als L' μ' s' a' w'
  | E,[],hcx,h=>⟨E,hcx,fun _ h=>h,h,fun L' μ' s' a' w' _ hr _=>hr⟩
  | E,(i0,d,t) :: als,hcx,h=>by
    rcases h with ⟨h1,h2⟩ | ⟨h1,k,tid,fz,h2,h3,hkw,hN,h4,h5,h6⟩
    · obtain ⟨E1,g1,g2,g3,g4⟩:=SS.step als hcx h2
      exact ⟨E1,g1,g2,g3,fun L' μ' s' a' w' hl hr hg=>Or.inl ⟨(hl i0 d t (List.mem_cons_self ..)).1.trans h1,g4 L' μ' s' a' w' (fun i d t hx=>hl i d t (List.mem_cons_of_mem _ hx)) hr hg⟩⟩
    · obtain ⟨E1,g1,g2,g3,g4⟩:=SS.step (E:=E.less k) als hcx h2
      refine ⟨E1,g1,fun j hj=>(g2 j hj).1,g3,fun L' μ' s' a' w' hl hr hg=>Or.inr ⟨(hl i0 d t (List.mem_cons_self ..)).1.trans h1,k,tid,fz,g4 L' μ' s' a' w' (fun i d t hx=>hl i d t (List.mem_cons_of_mem _ hx)) hr hg,h3,Nat.lt_of_lt_of_le hkw hg.evo.size,hN,fun v hv=>h4 v ((hl i0 d t (List.mem_cons_self ..)).2.symm.trans hv),?_,h6⟩⟩
      rw [hg.evo.heap k hkw fun ho=>less_not (E:=E) (g2 k (g3.mem.ownN' ho))]
      exact h5
theorem SS.less {L:Nat→Bool} {μ1:Lie} {s:St} {a1:Act} {w1:World} (o:Obj):∀ {E:Env} (als:List (Nat × Nat × Ty)),SS w0 w E als L μ1 s a1 w1→SS w0 w (E.less w1.heap.size) als L μ1 s a1 { w1 with heap:=w1.heap.push o }
  | E,[],h=>Rel.less h o
  | E,(i0,d,t) :: als,h=>by
    rcases h with ⟨h1,h2⟩ | ⟨h1,k,tid,fz,h2,h3,hkw,hN,h4,h5,h6⟩
    · exact Or.inl ⟨h1,SS.less o als h2⟩
    · have:=SS.less o als h2
      rw [less_comm] at this
      refine Or.inr ⟨h1,k,tid,fz,this,h3,by simp;omega,⟨hN,by omega⟩,h4,?_,h6⟩
      rw [(below_push w1 o).block k hkw];exact h5
theorem SS.put {L L':Nat→Bool} {μ1:Lie} {s:St} {a1:Act} {w1:World} {o:Option Nat} {v:Value}:∀ {E:Env} (als:List (Nat × Nat × Ty)),(∀ i0 d t,(i0,d,t)∈als→L' i0=L i0∧o≠some d)→SS w0 w E als L μ1 s a1 w1→SS w0 w E als L' μ1 (s.put o V.undef) (a1.put o v) w1
  | E,[],_,h=>Rel.put h o RepV.undef
  | E,(i0,d,t) :: als,hl,h=>by
    have hl':∀ i0 d t,(i0,d,t)∈als→L' i0=L i0∧o≠some d:=fun i d t hx=>hl i d t (List.mem_cons_of_mem _ hx)
    obtain ⟨e1,e2⟩:=hl i0 d t (List.mem_cons_self ..)
    have hsame:(a1.put o v).tmps[d]? = a1.tmps[d]?:=by
      cases o with
      | none=>rfl
      | some d' =>
        have:d'≠d:=fun e=>e2 (by rw [e])
        simp only [Act.put]
        rw [Array.getElem?_setIfInBounds_ne this]
    rcases h with ⟨h1,h2⟩ | ⟨h1,k,tid,fz,h2,h3,hkw,hN,h4,h5,h6⟩
    · exact Or.inl ⟨e1.trans h1,SS.put als hl' h2⟩
    · exact Or.inr ⟨e1.trans h1,k,tid,fz,SS.put als hl' h2,h3,hkw,hN,fun u hu=>h4 u (hsame ▸ hu),h5,h6⟩
theorem SS.alloc {L L':Nat→Bool} {μ1:Lie} {s:St} {a1:Act} {w1:World} {i d:Nat} {t:Ty} {tid:TypeId} (hw:w.heap.size≤w1.heap.size) (hL:L i=false) (hL':L' i=true):∀ {E:Env} (als:List (Nat × Nat × Ty)),(i,d,t)∈als→(als.map (·.1)).Nodup→(∀ i0 d0 t0,(i0,d0,t0)∈als→i0≠i→L' i0=L i0∧d0≠d)→SS w0 w E als L μ1 s a1 w1 →
    SS w0 w E als L' μ1 (s.put (some d) V.undef) (a1.put (some d) (.pointer (some ⟨w1.heap.size,0,none⟩))) { w1 with heap:=w1.heap.push (.cells (zeroVals t).toArray tid) }
  | E,[],hm,_,_,h=>by cases hm
  | E,(i0,d0,t0) :: als,hm,hnd,hl,h=>by
    rw [List.map_cons,List.nodup_cons] at hnd
    have hl':∀ i1 d1 t1,(i1,d1,t1)∈als→i1≠i→L' i1=L i1∧d1≠d:=fun i1 d1 t1 hx=>hl i1 d1 t1 (List.mem_cons_of_mem _ hx)
    rcases List.mem_cons.mp hm with e | hm'
    · cases e
      have hne:∀ i1 d1 t1,(i1,d1,t1)∈als→i1≠i:=fun i1 d1 t1 hx e=>hnd.1 (List.mem_map.mpr ⟨_,hx,e⟩)
      rcases h with ⟨h1,h2⟩ | ⟨h1,_⟩
      · have hb:=SS.big als h2
        refine Or.inr ⟨hL',w1.heap.size,tid,(0,0),?_,hw,by simp,E.hN _ hb.1,?_,heap_push_new _ _,unfrozen_zero _⟩
        · exact SS.put als (fun i1 d1 t1 hx=>⟨(hl' i1 d1 t1 hx (hne _ _ _ hx)).1,fun e=>(hl' i1 d1 t1 hx (hne _ _ _ hx)).2 (Option.some.inj e).symm⟩) (SS.less _ als h2)
        · intro v hv
          simp only [Act.put] at hv
          rw [Array.getElem?_setIfInBounds_self] at hv
          split at hv
          · cases hv;rfl
          · cases hv
      · rw [hL] at h1;cases h1
    · have hne:i0≠i:=fun e=>hnd.1 (List.mem_map.mpr ⟨_,hm',e.symm⟩)
      obtain ⟨e1,e2⟩:=hl i0 d0 t0 (List.mem_cons_self ..) hne
      rcases h with ⟨h1,h2⟩ | ⟨h1,k,tid0,fz,h2,h3,hkw,hN,h4,h5,h6⟩
      · exact Or.inl ⟨e1.trans h1,SS.alloc hw hL hL' als hm' hnd.2 hl' h2⟩
      · refine Or.inr ⟨e1.trans h1,k,tid0,fz,SS.alloc hw hL hL' als hm' hnd.2 hl' h2,h3,by simp;omega,hN,fun v hv=>h4 v ?_,?_,h6⟩
        · simp only [Act.put] at hv
          rwa [Array.getElem?_setIfInBounds_ne (Ne.symm e2)] at hv
        · rw [(below_push w1 _).block k hkw];exact h5
def fins:List (Nat × Nat × Ty)→St→St
  | [],s=>s
  | (_,d,t) :: als,s=>grownSt t d (fins als s)
inductive Als (cx:Cx) (all:List Oper):List Nat→List (Nat × Nat × Ty)→Prop
  | nil:Als cx all [] []
  | cons (i0:Nat) (oa:Oper) (tid:TypeId) (d:Nat) (t:Ty) (is:List Nat) (als:List (Nat × Nat × Ty)) (h:Als cx all is als) (h1:all[i0]? = some oa) (h2:oa.op = .alloc tid) (h3:oa.dst=some d) (h4:cx.ty tid=some t) (h5:oa.guard=none):Als cx all (i0 :: is) ((i0,d,t) :: als)
theorem evGrows_some {all:List Oper} {K:St→Option ρ} {r:ρ}:∀ {is:List Nat} {st:St},evGrows cx all is st K=some r→∃ als,Als cx all is als∧K (fins als st)=some r:=by
  intro is
  induction is generalizing K with
  | nil=>intro st h;exact ⟨[],.nil,h⟩
  | cons i0 is ih =>
    intro st h
    unfold evGrows at h
    obtain ⟨als,h1,h2⟩:=ih h
    unfold growAt at h2
    split at h2
    case h_2=>cases h2
    next oa ho =>
    split at h2
    case h_2=>cases h2
    next tid ht =>
    split at h2
    case h_2=>cases h2
    next d t hd hty hg=>exact ⟨_,.cons i0 oa tid d t is als h1 ho ht hd hty hg,h2⟩
theorem Als.facts {all:List Oper} {is:List Nat} {als:List (Nat × Nat × Ty)} (h:Als cx all is als):als.map (·.1)=is∧∀ i0 d t,(i0,d,t)∈als→∃ oa tid,all[i0]? = some oa∧oa.op = .alloc tid∧oa.dst=some d∧cx.ty tid=some t∧oa.guard=none:=by
  induction h with
  | nil=>exact ⟨rfl,fun i0 d t h=>by cases h⟩
  | cons i0 oa tid d t is als h h1 h2 h3 h4 h5 ih =>
    refine ⟨by rw [List.map_cons,ih.1],fun i1 d1 t1 hx=>?_⟩
    rcases List.mem_cons.mp hx with e | hx
    · cases e;exact ⟨oa,tid,h1,h2,h3,h4,h5⟩
    · exact ih.2 i1 d1 t1 hx
theorem allocsFrom_mem:∀ (l:List Oper) (n j:Nat),j∈allocsFrom l n↔∃ i o,j=n+i∧l[i]? = some o∧isAlloc o=true
  | [],n,j=>by simp [allocsFrom]
  | o :: l,n,j=>by
    unfold allocsFrom
    have ih:=allocsFrom_mem l (n+1) j
    cases ho:isAlloc o with
    | true =>
      simp only [cond_true,List.mem_cons,ih]
      constructor
      · rintro (rfl | ⟨i,o',rfl,h1,h2⟩)
        · exact ⟨0,o,rfl,rfl,ho⟩
        · exact ⟨i+1,o',by omega,h1,h2⟩
      · rintro ⟨i,o',rfl,h1,h2⟩
        cases i with
        | zero=>exact Or.inl rfl
        | succ i=>exact Or.inr ⟨i,o',by omega,h1,h2⟩
    | false =>
      simp only [cond_false,ih]
      constructor
      · rintro ⟨i,o',rfl,h1,h2⟩;exact ⟨i+1,o',by omega,h1,h2⟩
      · rintro ⟨i,o',rfl,h1,h2⟩
        cases i with
        | zero=>simp only [List.getElem?_cons_zero,Option.some.injEq] at h1;subst h1;rw [ho] at h2;cases h2
        | succ i=>exact ⟨i,o',by omega,h1,h2⟩
theorem allocsFrom_nodup:∀ (l:List Oper) (n:Nat),(allocsFrom l n).Nodup
  | [],_=>List.nodup_nil
  | o :: l,n=>by
    unfold allocsFrom
    cases isAlloc o with
    | true =>
      simp only [cond_true,List.nodup_cons]
      refine ⟨fun h=>?_,allocsFrom_nodup l (n+1)⟩
      obtain ⟨i,_,e,_⟩:=(allocsFrom_mem l (n+1) n).mp h
      omega
    | false=>exact allocsFrom_nodup l (n+1)
theorem fins_len:∀ (als:List (Nat × Nat × Ty)) (s:St),(fins als s).tmps.length=s.tmps.length
  | [],s=>rfl
  | (_,d,t) :: als,s=>by
    show ((fins als s).tmps.set d _).length=_
    rw [List.length_set];exact fins_len als s
theorem fins_slot {t0:Nat}:∀ (als:List (Nat × Nat × Ty)) (s:St),(∀ i0 d t,(i0,d,t)∈als→d≠t0)→(fins als s).tmps[t0]? = s.tmps[t0]?
  | [],s,_=>rfl
  | (i0,d,t) :: als,s,h=>by
    show ((fins als s).tmps.set d _)[t0]? = _
    rw [List.getElem?_set_ne (h i0 d t (List.mem_cons_self ..))]
    exact fins_slot als s fun i d t hx=>h i d t (List.mem_cons_of_mem _ hx)
theorem Goes.adopt {w1:World} {μ1 μ2:Lie} {s s2:St} {k:Nat} (hg:Goes w μ st w1 μ1 s) (hq:EvoQ μ1 s.bl μ2 s2.bl) (hown:∀ j,Own μ2 s2.bl j→Own μ1 s.bl j∨j=k) (hk:w.heap.size≤k) (hl:s2.lock=s.lock) (hkept:∀ b,b<s.bl.length→s2.bl[b]? = s.bl[b]?):Goes w μ st w1 μ2 s2:=by
  have hq1:EvoQ μ st.bl μ1 s.bl:=⟨hg.evo.len,hg.evo.var,hg.evo.arr⟩
  have hq2:=hq1.trans hq
  refine ⟨⟨hq2.len,hg.evo.size,hq2.var,hq2.arr,hg.evo.heap,fun j hj hlt=>?_⟩,hl.trans hg.lock,fun b hb hlt=>(hkept b (Nat.lt_of_lt_of_le hlt hg.evo.len)).trans (hg.kept b hb hlt)⟩
  rcases hown j hj with q | q
  · exact hg.evo.own j q hlt
  · omega
theorem SS.adopt {L:Nat→Bool} {s:St} {μ1:Lie} {a1:Act} {w1:World} (hw0:w0.heap.size≤w.heap.size) (hg:Goes w μ st w1 μ1 s):∀ {E:Env} (als:List (Nat × Nat × Ty)),(∀ x∈als,L x.1=true)→SS w0 w E als L μ1 s a1 w1 →
    ∃ μ2,Rel E w0 μ2 (fins als s) a1 w1∧Goes w μ st w1 μ2 (fins als s)
  | E,[],_,h=>⟨μ1,h,hg⟩
  | E,(i0,d,t) :: als,hl,h=>by
    have hl0:=hl (i0,d,t) (List.mem_cons_self ..)
    rcases h with ⟨h1,_⟩ | ⟨_,k,tid,fz,h2,h3,hkw,hN,h4,h5,h6⟩
    · simp only at hl0;rw [h1] at hl0;cases hl0
    · obtain ⟨μ2,r1,g1⟩:=SS.adopt hw0 hg als (fun x hx=>hl x (List.mem_cons_of_mem _ hx)) h2
      obtain ⟨μ3,q1,q2,q3,q4⟩:=r1.adopt hN (Nat.le_trans hw0 h3) h5 h6 h4
      exact ⟨μ3,q1,g1.adopt q2 q3 h3 rfl q4⟩
theorem hr_any (hcx:cx.good P E.G) {ops:Array Oper} (hok:hrOk cx ops.toList=true) {K:St→Option ρ} {r:ρ}
    (h:(evFloat cx (lates cx ops.toList) ((floats ops.toList ops.toList []).zip (ops.toList.take (tailAt ops.toList))) st fun st=>evEarly cx ((floats ops.toList ops.toList []).zip (ops.toList.take (tailAt ops.toList))) st fun st=>evGrows cx ops.toList (allocsAt ops.toList) st K)=some r) (hR:Rel E w0 μ st a w) {Q:Exit→Act→World→Prop}
    (hQ:∀ st' μ' a' w',K st'=some r→st'.tmps.length=st.tmps.length→(∀ t,t ∉ opsDst ops.toList→st'.tmps[t]? = st.tmps[t]?)→Rel E w0 μ' st' a' w'→(∀ t,t ∉ opsDst ops.toList→a'.tmps[t]? = a.tmps[t]?)→Goes w μ st w' μ' st'→wpOps P ops Q (List.range' (tailAt ops.toList) (ops.size-tailAt ops.toList)) a' w'):wpAny P .any ops Q ops.size (Array.replicate ops.size false) a { w with drawn:=w.drawn+1 }:=by
  have hh:=hrOk_sound hok
  have hd:=hh.draw
  have hmle:=tailAt_le hd
  obtain ⟨fl,hfl⟩:∃ fl:Nat→Bool,fl=fun i=>(floats ops.toList ops.toList []).getD i false:=⟨_,rfl⟩
  rw [← hfl] at hh
  obtain ⟨f1,_⟩:=floats_spec hd ops.toList [] rfl (fun i o hi=>by simp at hi)
  have hsize:ops.toList.length=ops.size:=by simp
  have hl:∀ (i:Nat) (b:Bool) (o:Oper),((floats ops.toList ops.toList []).zip (ops.toList.take (tailAt ops.toList)))[i]? = some (b,o)→ops.toList[i]? = some o∧fl i=b:=by
    intro i b o hi
    rw [List.getElem?_zip_eq_some] at hi
    obtain ⟨h1,h2⟩:=hi
    refine ⟨?_,?_⟩
    · rw [List.getElem?_take] at h2
      split at h2
      · exact h2
      · cases h2
    · rw [hfl]
      simp only
      rw [List.getD_eq_getElem?_getD,h1];rfl
  have hm:((floats ops.toList ops.toList []).zip (ops.toList.take (tailAt ops.toList))).length=tailAt ops.toList:=by
    rw [List.length_zip,List.length_take,f1]
    simp only [List.length_nil,Nat.zero_add]
    omega
  obtain ⟨X1,s1,_,g1,g2,g3⟩:=float_steps (st:=st) (lates cx ops.toList) hh hl hm _ 0 st (fun _=>V.undef) rfl ⟨rfl,rfl,rfl,fun t ht=>by
    split
    · simp
    · rfl⟩ h (Nat.zero_le _)
  obtain ⟨X,s2,B,e1,e2,e3,e4,e5,e6,e8,e7⟩:=early_steps (st:=st) hh hl hm (Nat.le_refl _) _ 0 s1 st.bl X1 rfl (g1.congr fun j _=>⟨by simp,fun _=>rfl⟩) g2 (Nat.zero_le _)
  obtain ⟨al,hal,hK⟩:=evGrows_some e3
  have halm:∀ j,j∈allocsAt ops.toList↔j<tailAt ops.toList∧∃ o,ops.toList[j]? = some o∧isAlloc o=true:=by
    intro j
    unfold allocsAt
    rw [allocsFrom_mem]
    constructor
    · rintro ⟨i,o,rfl,h1,h2⟩
      rw [Nat.zero_add]
      rw [List.getElem?_take] at h1
      split at h1
      · next hi=>exact ⟨hi,o,h1,h2⟩
      · cases h1
    · rintro ⟨hi,o,h1,h2⟩
      exact ⟨j,o,(Nat.zero_add _).symm,by rw [List.getElem?_take_of_lt hi];exact h1,h2⟩
  have hnd:(al.map (·.1)).Nodup:=by rw [hal.facts.1];exact allocsFrom_nodup _ _
  have hfacts:∀ i0 d t,(i0,d,t)∈al→i0<tailAt ops.toList∧writer ops.toList d=some i0∧(∃ oa tid,ops.toList[i0]? = some oa∧oa.op = .alloc tid∧oa.dst=some d∧cx.ty tid=some t∧oa.guard=none):=by
    intro i0 d t hx
    obtain ⟨oa,tid,h1,h2,h3,h4,h5⟩:=hal.facts.2 i0 d t hx
    have:i0∈allocsAt ops.toList:=by rw [← hal.facts.1];exact List.mem_map.mpr ⟨_,hx,rfl⟩
    exact ⟨((halm i0).mp this).1,hd.dst i0 oa h1 d h3,oa,tid,h1,h2,h3,h4,h5⟩
  have hhas:∀ (i:Nat) (o:Oper),i<tailAt ops.toList→ops.toList[i]? = some o→isAlloc o=true→∃ d t,(i,d,t)∈al:=by
    intro i o hi ho ha
    have h1:i∈al.map (·.1):=by rw [hal.facts.1];exact (halm i).mpr ⟨hi,o,ho,ha⟩
    obtain ⟨⟨i',d,t⟩,h2,rfl⟩:=List.mem_map.mp h1
    exact ⟨d,t,h2⟩
  have hwait:=hh.wait
  generalize hmm:tailAt ops.toList=m at *
  have hX:∀ j,j<m→fl j=true→X j=X1 j:=fun j hj hfj=>e1 j (by simp [hj,hfj])
  have hBg:∀ (q:Bool × List Nat) k,k≤m→(∀ j oj,j<k→ops.toList[j]? = some oj→((killsOf cx oj).1=true→q.1=true)∧∀ n,n∈(killsOf cx oj).2→n∈q.2)→Spoilt q st.bl (B k):=by
    intro q k
    induction k with
    | zero=>intro _ _;rw [e4];exact Spoilt.refl _ _
    | succ k ih =>
      intro hk hj
      obtain ⟨ok,hok'⟩:∃ ok,ops.toList[k]? = some ok:=⟨_,List.getElem?_eq_getElem (by omega)⟩
      exact (ih (by omega) fun j oj hjk=>hj j oj (by omega)).trans (e6 k (Nat.zero_le _) (by omega) ok hok') (hj k ok (by omega) hok').1 (hj k ok (by omega) hok').2
  have hBc:∀ d k,k+d≤m→(∀ j,k≤j→j<k+d→(fl j||alAt ops.toList j)=true)→B (k+d)=B k:=by
    intro d
    induction d with
    | zero=>intro k _ _;rfl
    | succ d ih =>
      intro k hk hj
      rw [show k+(d+1)=(k+d)+1 by omega,e5 (k+d) (Nat.zero_le _) (by omega) (hj _ (by omega) (by omega))]
      exact ih k (by omega) fun j h1 h2=>hj j h1 (by omega)
  have key:∀ (fuel:Nat) (listed:Array Bool) (k:Nat) (s:St) (μ1:Lie) (a1:Act) (w1:World),listed.size=ops.size→(unlisted ops.size listed).length≤fuel→(∀ j,m≤j→listed.getD j false=false)→k≤m→(∀ j,j<m→(fl j||alAt ops.toList j)=false→listed.getD j false=decide (j<k)) →
      FitN ops.toList { st with bl:=B k } X (fun j=>listed.getD j false) s→SS w0 w E al (fun j=>listed.getD j false) μ1 s a1 w1→(∀ t,t ∉ opsDst ops.toList→a1.tmps[t]? = a.tmps[t]?)→Goes w μ st w1 μ1 s→Closed ops.toList (fun j=>listed.getD j false)→wpAny P .any ops Q fuel listed a1 w1:=by
    have atEnd:∀ (fuel:Nat) (listed:Array Bool) (k:Nat) (s:St) (μ1:Lie) (a1:Act) (w1:World),listed.size=ops.size→(unlisted ops.size listed).length≤fuel→(∀ j,m≤j→listed.getD j false=false)→k≤m→(∀ j,j<m→(fl j||alAt ops.toList j)=false→listed.getD j false=decide (j<k)) →
        FitN ops.toList { st with bl:=B k } X (fun j=>listed.getD j false) s→SS w0 w E al (fun j=>listed.getD j false) μ1 s a1 w1→(∀ t,t ∉ opsDst ops.toList→a1.tmps[t]? = a.tmps[t]?)→Goes w μ st w1 μ1 s→Closed ops.toList (fun j=>listed.getD j false)→(∀ i,i<m→listed.getD i false=true)→wpAny P .any ops Q fuel listed a1 w1:=by
      intro fuel listed k s μ1 a1 w1 hn hc htail hkm hks hf hR1 hk hg hcl hall
      have hlst:∀ i,i<ops.size→listed.getD i false=decide (i<m):=by
        intro i _
        rcases Nat.lt_or_ge i m with q | q
        · rw [hall i q];simp [q]
        · rw [htail i q];simp;omega
      have hBk:B m=B k:=by
        have:=hBc (m-k) k (by omega) (fun j h1 h2=>by
          cases hfj:(fl j||alAt ops.toList j) with
          | true=>rfl
          | false =>
            have q:=hks j (by omega) hfj
            rw [hall j (by omega)] at q
            have:=of_decide_eq_true q.symm
            omega)
        rwa [show k+(m-k)=m by omega] at this
      have hs:s=s2:=by
        have h1:=hf.congr (X':=X) (L':=fun j=>decide (j<m)) fun j hj=>⟨hlst j (by omega),fun _=>rfl⟩
        rw [← hBk] at h1
        exact h1.same e2
      subst hs
      have hcount:ops.size-m≤fuel:=by
        have:unlisted ops.size listed=(List.range ops.size).filter fun i=>!decide (i<m):=by
          unfold unlisted
          apply List.filter_congr
          intro i hi
          have hi:i<ops.size:=by simpa using hi
          rw [getD_true (by omega),hlst i hi]
        rw [this,unlisted_from] at hc
        exact hc
      have hslot:∀ t,t ∉ opsDst ops.toList→s.tmps[t]? = st.tmps[t]?:=fun t ht=>by
        rcases Nat.lt_or_ge t st.tmps.length with q | q
        · rw [e2.get t q]
          split
          · next j hj =>
            obtain ⟨o,ho,hdst⟩:=writer_some hj
            exact absurd (opsDst_get ho hdst) ht
          · rfl
        · rw [List.getElem?_eq_none (by rw [e2.len];exact q),List.getElem?_eq_none q]
      refine tail_any hd (ops.size-m) fuel m listed a1 w1 hn hlst hcl (by omega) (by omega) hcount ?_
      obtain ⟨μ2,r1,r2⟩:=SS.adopt hR.mem.below.size hg al (fun x hx=>hall x.1 (hfacts x.1 x.2.1 x.2.2 hx).1) hR1
      refine hQ _ μ2 a1 w1 hK ((fins_len al s).trans e2.len) (fun u hu=>?_) r1 hk r2
      rw [fins_slot al s fun i0 d t hx e=>?_]
      · exact hslot u hu
      · obtain ⟨_,_,oa,tid,q1,_,q3,_⟩:=hfacts i0 d t hx
        subst e
        exact hu (opsDst_get q1 q3)
    intro fuel
    induction fuel with
    | zero =>
      intro listed k s μ1 a1 w1 hn hc htail hkm hks hf hR1 hk hg hcl
      by_cases hall:∀ i,i<m→listed.getD i false=true
      · exact atEnd _ listed k s μ1 a1 w1 hn hc htail hkm hks hf hR1 hk hg hcl hall
      · exfalso
        apply hall
        intro i hi
        have hnil:unlisted ops.size listed=[]:=List.eq_nil_of_length_eq_zero (by omega)
        unfold unlisted at hnil
        rw [List.filter_eq_nil_iff] at hnil
        have:=hnil i (by simp;omega)
        rw [getD_true (by omega)] at this
        simpa using this
    | succ fuel ih =>
      intro listed k s μ1 a1 w1 hn hc htail hkm hks hf hR1 hk hg hcl
      by_cases hall:∀ i,i<m→listed.getD i false=true
      · exact atEnd _ listed k s μ1 a1 w1 hn hc htail hkm hks hf hR1 hk hg hcl hall
      refine ⟨fun hready=>absurd ?_ hall,fun i hi=>?_⟩
      · intro i
        induction i using Nat.strongRecOn with
        | _ i ih =>
          intro hi
          have hin:i<ops.size:=by omega
          cases hl:listed.getD i false with
          | true=>rfl
          | false =>
            exfalso
            have hoi':ops.toList[i]? = some ops[i]:=by rw [Array.getElem?_toList];exact Array.getElem?_eq_getElem hin
            have:i∈Region.ready .any ops listed:=(ready_iff hn).mpr ⟨_,hoi',hl,fun e he=>by
              obtain ⟨e',he',hbnd,rfl⟩:=edges_mem he
              have:=hd.back i _ hoi' e' he' hbnd
              exact ih e'.on this (by omega)⟩
            rw [hready] at this
            cases this
      obtain ⟨o,hoi',hul,hdep0⟩:=(ready_iff hn).mp hi
      have hin:i<ops.size:=by have:=lt_get hoi';simpa using this
      have hoi:ops[i]? = some o:=by rw [← Array.getElem?_toList];exact hoi'
      have him:i<m:=by
        rcases Nat.lt_or_ge i m with q | q
        · exact q
        · exfalso
          apply hall
          intro b hb
          exact tail_all hd hcl hoi' (by rw [hmm];exact q) hdep0 b (by omega)
      have hback:∀ j∈edges o,j<i:=by
        intro j hj
        obtain ⟨e,he,hbnd,rfl⟩:=edges_mem hj
        exact hd.back i o hoi' e he hbnd
      have slot':∀ (bl':List Blk) (L:Nat→Bool) (si:St),FitN ops.toList { st with bl:=bl' } X L si→(∀ j∈edges o,(∃ t∈looked o,writer ops.toList t=some j)→L j=true)→(∀ j (oj:Oper),ops.toList[j]? = some oj→i∈edges oj→(∃ t∈looked o,writer ops.toList t=some j)→L j=false)→∀ t∈looked o,s.tmps[t]? = si.tmps[t]?:=by
        intro bl' L si hfi hL1 hL2 t ht
        rcases Nat.lt_or_ge t st.tmps.length with q | q
        · rw [hf.get t q,hfi.get t q]
          cases hw:writer ops.toList t with
          | none=>rfl
          | some j =>
            simp only
            rcases hd.reads i o hoi' t ht j hw with hr | ⟨oj,hoj,hie⟩
            · rw [if_pos (hdep0 j hr),if_pos (hL1 j hr ⟨t,ht,hw⟩)]
            · have hlj:listed.getD j false=false:=by
                cases hl:listed.getD j false with
                | false=>rfl
                | true =>
                  have h1:=hcl j oj hoj hl i hie
                  simp only at h1
                  rw [h1] at hul;cases hul
              rw [hlj,hL2 j oj hoj hie ⟨t,ht,hw⟩]
        · rw [List.getElem?_eq_none (by rw [hf.len];exact q),List.getElem?_eq_none (by rw [hfi.len];exact q)]
      have hget:∀ (si:St),(∀ t∈looked o,s.tmps[t]? = si.tmps[t]?)→∀ x∈o.op.operands,s.get x=si.get x:=by
        intro si hs x hx
        cases x with
        | tmp t =>
          show s.tmps.getD t V.undef=si.tmps.getD t V.undef
          rw [List.getD_eq_getElem?_getD,List.getD_eq_getElem?_getD,hs t (looked_mem hx)]
        | const v=>rfl
        | global g=>rfl
        | func f=>rfl
      have hn':(listed.setIfInBounds i true).size=ops.size:=by simpa using hn
      have hc':(unlisted ops.size (listed.setIfInBounds i true)).length≤fuel:=by
        have:=unlisted_less hn hin (by rw [getD_true (by omega)];exact hul);omega
      have htail':∀ j,m≤j→(listed.setIfInBounds i true).getD j false=false:=by
        intro j hj
        rw [getD_set hn hin,htail j hj]
        have:j≠i:=by omega
        simpa using this
      have hcl':=closed_set hn hin hoi' hdep0 hcl
      have hframe:∀ v t,t ∉ opsDst ops.toList→(a1.put o.dst v).tmps[t]? = a.tmps[t]?:=by
        intro v t ht
        rw [← hk t ht]
        cases hdst:o.dst with
        | none=>rfl
        | some d =>
          have:d≠t:=by rintro rfl;exact ht (opsDst_get hoi' hdst)
          simp only [Act.put]
          rw [Array.getElem?_setIfInBounds_ne this]
      unfold wpOp
      simp only [hoi]
      have wanted:o.guard=none→Region.wanted o (yielded ops a1.tmps)=true:=fun hgd=>by unfold Region.wanted;rw [hgd]
      cases hisal:isAlloc o with
      | true =>
        have hfi:fl i=false:=by rw [hh.float i o hoi',quiet_no_alloc hisal,Bool.false_and]
        have hai:alAt ops.toList i=true:=by rw [alAt_get hoi'];exact hisal
        obtain ⟨d,t,hx⟩:=hhas i o him hoi' hisal
        · obtain ⟨p1,p3,oa,tid,q1,q2,q3,q4,q5⟩:=hfacts i d t hx
          rw [hoi'] at q1
          cases q1
          rw [if_pos (wanted q5)]
          have hty:=hcx.ok.ty tid _ q4
          have hrun:(execOp a1.eval o).run P w1 = .ok (.value (.pointer (some ⟨w1.heap.size,0,none⟩))) { w1 with heap:=w1.heap.push (.cells (zeroVals t).toArray tid) }:=by
            unfold execOp
            simp only [q2]
            simp [Instr.alloc,run_zeroValue hty,newVar,newRow,zeroV_cells hty]
          have hb:=below_push w1 (.cells (zeroVals t).toArray tid)
          obtain ⟨E0,_,_,hrel,_⟩:=SS.step al hcx hR1
          have hX:X i=V.undef:=e8 i (Nat.zero_le _) him hfi hai
          refine Or.inl ?_
          unfold Oper.wp
          rw [hrun]
          have hfit:=hf.put hoi' (hd.dst i o hoi')
          rw [hX] at hfit
          refine ih _ k _ μ1 _ _ hn' hc' htail' hkm (fun j hj hfj=>?_) (hfit.congr fun j _=>⟨(getD_set hn hin j).symm,fun _=>rfl⟩) ?_ (hframe _) ((hg.trans ⟨(hrel.mem.world hb).2,rfl,fun _ _ _=>rfl⟩).trans (goes_put o.dst _)) hcl'
          · rw [getD_set hn hin,← hks j hj hfj]
            have:j≠i:=by rintro rfl;rw [hai,Bool.or_true] at hfj;cases hfj
            have:(j == i)=false:=by simpa using this
            rw [this,Bool.or_false]
          · rw [q3]
            refine SS.alloc (tid:=tid) hg.evo.size hul (by simp only [getD_set hn hin,beq_self_eq_true,Bool.or_true]) al hx hnd (fun i0 d0 t0 hx0 hne=>⟨?_,?_⟩) hR1
            · simp only [getD_set hn hin]
              have:(i0 == i)=false:=by simpa using hne
              rw [this,Bool.or_false]
            · rintro rfl
              have:=(hfacts i0 d0 t0 hx0).2.1
              rw [p3] at this;cases this;exact hne rfl
      | false =>
      have hal0:alAt ops.toList i=false:=by rw [alAt_get hoi'];exact hisal
      obtain ⟨E1,hcx1,_,hR1,back⟩:=SS.step al hcx hR1
      have hother:∀ v i0 d t,(i0,d,t)∈al→(listed.setIfInBounds i true).getD i0 false=listed.getD i0 false∧(a1.put o.dst v).tmps[d]? = a1.tmps[d]?:=by
        intro v i0 d t e
        obtain ⟨p1,p3,oa,tid,q1,q2,q3,q4,q5⟩:=hfacts i0 d t e
        have hne:i0≠i:=by
          rintro rfl
          rw [hoi'] at q1;cases q1
          unfold isAlloc at hisal;rw [q2] at hisal;cases hisal
        refine ⟨?_,?_⟩
        · rw [getD_set hn hin]
          have:(i0 == i)=false:=by simpa using hne
          rw [this,Bool.or_false]
        · cases hdst:o.dst with
          | none=>rfl
          | some d' =>
            have:d'≠d:=by
              rintro rfl
              have:=hd.dst i o hoi' d' hdst
              rw [p3] at this;cases this;exact hne rfl
            simp only [Act.put]
            rw [Array.getElem?_setIfInBounds_ne this]
      cases hfi:fl i with
      | true =>
        have hq:isQuiet o=true:=by
          have:=hh.float i o hoi'
          rw [hfi] at this
          exact ((Bool.and_eq_true _ _).mp this.symm).1
        have hfe:∀ j∈edges o,(∃ t∈looked o,writer ops.toList t=some j)→fl j=true:=by
          intro j hj ⟨t,ht,hw⟩
          have:=hh.float i o hoi'
          rw [hfi] at this
          have h1:=List.all_eq_true.mp ((Bool.and_eq_true _ _).mp this.symm).2 j hj
          rw [Bool.or_eq_true] at h1
          rcases h1 with h1 | h1
          · exact h1
          · unfold loose at h1
            rw [Bool.and_eq_true,Bool.not_eq_true',List.any_eq_false] at h1
            have h2:=h1.1 t ht
            rw [hw] at h2
            exact absurd (Nat.beq_refl j) h2
        rw [if_pos (wanted (quiet_kind hq).2)]
        obtain ⟨si,hsi,hev⟩:=g3 i o (Nat.zero_le _) him hoi' hfi
        have hsi:FitN ops.toList st X (fun j=>decide (j<i)&&fl j) si:=hsi.congr fun j _=>⟨rfl,fun q=>by
          rw [Bool.and_eq_true] at q
          exact (hX j (by have:=of_decide_eq_true q.1;omega) q.2).symm⟩
        rw [← hX i him hfi] at hev
        have hg1:=hget si (slot' st.bl _ si hsi (fun j hj hfd=>by simp [hback j hj,hfe j hj hfd]) (fun j oj hoj hie _=>by
          obtain ⟨e,he,hbnd,rfl⟩:=edges_mem hie
          have:=hd.back j oj hoj e he hbnd
          simp;omega))
        have hev3:evPure cx o s some=some (X i):=by
          have hsp:Spoilt ((lates cx ops.toList).getD i (false,[])) st.bl (B k):=hBg _ k hkm fun j oj hjk hoj=>by
            cases hfj:(fl j||alAt ops.toList j) with
            | false =>
              have hlj:=hks j (by omega) hfj
              rw [decide_eq_true hjk] at hlj
              rcases hwait (fun i=>listed.getD i false) i j oj hcl (lt_get hoi') (by omega) hoj (hcl j oj hoj hlj) with q | q
              · rw [q] at hul;cases hul
              · exact q
            | true =>
              have hkz:killsOf cx oj=(false,[]):=by
                rw [Bool.or_eq_true] at hfj
                rcases hfj with q | q
                · have hqq:isQuiet oj=true:=by
                    have:=hh.float j oj hoj
                    rw [q] at this
                    exact ((Bool.and_eq_true _ _).mp this.symm).1
                  unfold killsOf
                  unfold isQuiet at hqq
                  rw [Bool.and_eq_true] at hqq
                  have hqq:=hqq.2
                  split
                  · next c hcc =>
                    rw [hcc] at hqq
                    simp only at hqq
                    split at hqq
                    · next hcal=>simp only [hcal]
                    · cases hqq
                  · rfl
                · rw [alAt_get hoj] at q
                  unfold isAlloc at q
                  unfold killsOf
                  split
                  · next c hcc=>rw [hcc] at q;cases q
                  · rfl
              rw [hkz]
              refine ⟨fun h=>?_,fun n hn=>?_⟩
              · cases h
              · cases hn
          have hev0:evPure cx o { si with bl:=si.bl.map (killBlk ((lates cx ops.toList).getD i (false,[]))) } some=some (X i):=by
            unfold lateSt at hev
            cases hno:noKill ((lates cx ops.toList).getD i (false,[])) with
            | false=>rw [hno] at hev;exact hev
            | true =>
              rw [hno] at hev
              have hev:evPure cx o si some=some (X i):=hev
              have:si.bl.map (killBlk ((lates cx ops.toList).getD i (false,[])))=si.bl:=by
                unfold noKill at hno
                rw [Bool.and_eq_true,Bool.not_eq_true',List.isEmpty_iff] at hno
                refine (List.map_congr_left fun x _=>?_).trans (List.map_id _)
                cases x with
                | var cs=>simp only [killBlk,hno.2];rfl
                | arr g own nf t l=>simp only [killBlk,hno.1];rfl
                | dead=>rfl
              rw [this];exact hev
          have hev2:evPure cx o { s with bl:=st.bl.map (killBlk ((lates cx ops.toList).getD i (false,[]))) } some=some (X i):=by
            rw [evPure_congr (st:={ si with bl:=si.bl.map (killBlk ((lates cx ops.toList).getD i (false,[]))) }) (st':={ s with bl:=st.bl.map (killBlk ((lates cx ops.toList).getD i (false,[]))) }) (by rw [hsi.bl]) (fun x hx=>(get_bl x).trans ((hg1 x hx).trans (get_bl x).symm)) (quiet_kind hq).1]
            exact hev0
          exact evPure_grown (st:={ s with bl:=st.bl.map (killBlk ((lates cx ops.toList).getD i (false,[]))) }) (bl':=s.bl) (by rw [hf.bl];exact hsp) (quiet_kind hq).1 hev2
        obtain ⟨Y,v,e,hrep,hrun⟩:=evPure_sound hcx1.ok hR1 hev3
        cases e
        have hrun:(execOp a1.eval o).run P w1 = .ok (.value v) w1:=hrun
        refine Or.inl ?_
        unfold Oper.wp
        rw [hrun]
        refine ih _ k _ μ1 _ w1 hn' hc' htail' hkm (fun j hj hfj=>?_) ((hf.put hoi' (hd.dst i o hoi')).congr fun j _=>⟨(getD_set hn hin j).symm,fun _=>rfl⟩) (back _ _ _ _ _ (hother v) (hR1.put o.dst hrep) (goes_put o.dst _)) (hframe v) (hg.trans (goes_put o.dst _)) hcl'
        rw [getD_set hn hin,← hks j hj hfj]
        have:j≠i:=by rintro rfl;rw [hfi,Bool.true_or] at hfj;cases hfj
        have:(j == i)=false:=by simpa using this
        rw [this,Bool.or_false]
      | false =>
        have hsk:(fl i||alAt ops.toList i)=false:=by rw [hfi,hal0];rfl
        have hearly:=hh.early i o (by rw [hmm];exact him) hoi' hsk
        have hgd:o.guard=none:=by
          cases hq:isQuiet o with
          | true=>exact (quiet_kind hq).2
          | false=>exact (early_kind hearly hq).1
        rw [if_pos (wanted hgd)]
        have hchain:=hh.chain (fun j=>listed.getD j false) i o hcl hoi' hdep0 hsk
        have hki:k≤i:=by
          have:=hks i him hsk
          rw [hul] at this
          have:=of_decide_eq_false this.symm
          omega
        have hBi:B i=B k:=by
          have:=hBc (i-k) k (by omega) (fun j h1 h2=>by
            cases hfj:(fl j||alAt ops.toList j) with
            | true=>rfl
            | false =>
              have q:=hks j (by omega) hfj
              rw [hchain j (by omega) hfj] at q
              have:=of_decide_eq_true q.symm
              omega)
          rwa [show k+(i-k)=i by omega] at this
        obtain ⟨si,hsi,hev⟩:=e7 i o (Nat.zero_le _) him hoi' hsk
        have hg1:=hget si (slot' (B i) _ si hsi (fun j hj _=>by simp [hback j hj]) (fun j oj hoj hie hfd=>by
          obtain ⟨e,he,hbnd,rfl⟩:=edges_mem hie
          have h1:=hd.back j oj hoj e he hbnd
          have h2:fl j=false:=by
            have:=hh.float j oj hoj
            rw [this]
            cases hq:isQuiet oj with
            | false=>rfl
            | true =>
              rw [Bool.true_and,Bool.eq_false_iff]
              intro hall
              have:=List.all_eq_true.mp hall _ hie
              rw [hfi,Bool.false_or] at this
              unfold loose at this
              rw [Bool.and_eq_true] at this
              obtain ⟨t,ht,hw⟩:=hfd
              obtain ⟨oj',hoj',hdst⟩:=writer_some hw
              rw [hoj] at hoj'
              cases hoj'
              have h3:=this.2
              rw [hdst,hoi'] at h3
              simp only [Bool.not_eq_true',List.contains_eq_mem,decide_eq_false_iff_not] at h3
              exact h3 ht
          simp [h2];omega))
        have hev2:=early_congr (s:=si) (s':=s) hearly (by rw [hf.bl,hsi.bl,hBi]) (by rw [hf.lock,hsi.lock]) hg1 hev
        refine Or.inl (early_sound hcx1 hearly hR1 hev2 _ Q fun μ' v w' hrep hR2 hg2=>?_)
        refine ih _ (i+1) _ μ' _ w' hn' hc' htail' (by omega) (fun j hj hfj=>?_) (((hf.with_bl (B (i+1))).put hoi' (hd.dst i o hoi')).congr fun j _=>⟨(getD_set hn hin j).symm,fun _=>rfl⟩) (back _ _ _ _ _ (hother v) (hR2.put o.dst hrep) (hg2.trans (goes_put o.dst _))) (hframe v) ((hg.trans hg2).trans (goes_put o.dst _)) hcl'
        rw [getD_set hn hin,hks j hj hfj,Bool.eq_iff_iff]
        simp only [Bool.or_eq_true,decide_eq_true_eq,beq_iff_eq]
        constructor
        · rintro (q | q) <;> omega
        · intro q
          rcases Nat.lt_or_ge j i with q2 | q2
          · have:=hchain j q2 hfj
            rw [hks j hj hfj] at this
            exact Or.inl (of_decide_eq_true this)
          · exact Or.inr (by omega)
  have hb:Below w.heap.size w { w with drawn:=w.drawn+1 }:=⟨rfl,rfl,rfl,Nat.le_refl _,fun _ _=>rfl⟩
  obtain ⟨m1,q1⟩:=hR.mem.world hb
  have hrep0:∀ j,(Array.replicate ops.size false).getD j false=false:=fun j=>by
    rw [Array.getD_eq_getD_getElem?,Array.getElem?_replicate]
    split <;> rfl
  refine key ops.size _ 0 st μ a _ (by simp) ?_ (fun j _=>hrep0 j) (Nat.zero_le _) (fun j _ _=>by rw [hrep0 j];simp) ⟨by rw [e4],rfl,rfl,fun t ht=>?_⟩ ?_ (fun _ _=>rfl) ⟨q1,rfl,fun _ _ _=>rfl⟩ (fun j oj _ hl=>by simp only [hrep0 j] at hl;cases hl)
  · unfold unlisted
    exact Nat.le_trans (List.length_filter_le _ _) (by simp)
  · split
    · next j hj=>simp only [hrep0 j];rfl
    · rfl
  · have hR0:=hR.next m1 q1 (hR.tree.world hR.mem hb)
    exact SS.start hR0 al fun x _=>hrep0 x.1
end
end Go.Proofs.YtnohkcklakipoaaGreatDoor.Ev
set_option linter.unusedVariables false
set_option linter.unusedSimpArgs false
namespace Go.Proofs.YtnohkcklakipoaaGreatDoor.Ev
open Go Go.RowKit Go.Proofs
section
variable {P:Program} {ops:Array Oper} {Q:Exit→Act→World→Prop}
theorem more_get {i:Nat} {o:Oper} (h:ops[i]? = some o):(moreOps ops)[i]? = some (moreOp ops.toList i o):=by
  unfold moreOps
  rw [List.getElem?_toArray,List.getElem?_mapIdx,Array.getElem?_toList,h];rfl
theorem more_none {i:Nat} (h:ops[i]? = none):(moreOps ops)[i]? = none:=by
  unfold moreOps
  rw [List.getElem?_toArray,List.getElem?_mapIdx,Array.getElem?_toList,h];rfl
theorem more_size:(moreOps ops).size=ops.size:=by unfold moreOps;simp
theorem more_exec (ρ:Operand→Value) (all:List Oper) (i:Nat) (o:Oper):execOp ρ (moreOp all i o)=execOp ρ o:=by
  obtain ⟨dst,op,type,pos,after,guard⟩:=o
  unfold moreOp
  cases op <;> rfl
theorem more_yielded (t:Array Value):yielded (moreOps ops) t=yielded ops t:=by
  funext g
  unfold yielded
  cases h:ops[g]? with
  | none=>rw [more_none h]
  | some o=>rw [more_get h];rfl
theorem more_wpOp {i:Nat} {K:Act→World→Prop} {a:Act} {w:World} (h:wpOp P (moreOps ops) Q i K a w):wpOp P ops Q i K a w:=by
  unfold wpOp at h ⊢
  cases ho:ops[i]? with
  | none=>rw [more_none ho] at h;exact h
  | some o =>
    rw [more_get ho] at h
    simp only [more_yielded] at h ⊢
    have e1:Region.wanted (moreOp ops.toList i o) (yielded ops a.tmps)=Region.wanted o (yielded ops a.tmps):=rfl
    have e2:(moreOp ops.toList i o).wp P a w K Q=o.wp P a w K Q:=by
      unfold Oper.wp
      rw [more_exec];rfl
    have e3:(moreOp ops.toList i o).asks P a w=o.asks P a w:=by
      unfold Oper.asks
      rw [more_exec]
    rw [e1,e2,e3] at h
    exact h
theorem edges_of {o:Oper} {e:Edge} (he:e∈o.after) (hb:Region.binds .any e=true):e.on∈edges o:=by
  unfold edges
  rw [List.mem_filterMap]
  exact ⟨e,by simpa using he,by rw [hb];rfl⟩
theorem moreFor_mem {all:List Oper} {i:Nat} {o:Oper}:∀ (r:List Oper) (n f:Nat),(∀ k x,r[k]? = some x→all[n+k]? = some x)→f∈moreFor all i o r n→∃ of,all[f]? = some of∧takeOk all f of=true∧f<i∧∀ e∈edges of,e∈edges o
  | [],n,f,_,h=>by cases h
  | x :: r,n,f,hr,h=>by
    have hr':∀ k y,r[k]? = some y→all[n+1+k]? = some y:=fun k y hk=>by have:=hr (k+1) y hk;rwa [show n+(k+1)=n+1+k by omega] at this
    unfold moreFor at h
    cases hc:isTake x&&Nat.blt n i && !(edges o).contains n&&(edges x).all (fun e=>(edges o).contains e)&&takeOk all n x with
    | true =>
      rw [hc] at h
      simp only [cond_true,List.mem_cons] at h
      rcases h with rfl | h
      · simp only [Bool.and_eq_true,Bool.not_eq_true'] at hc
        obtain ⟨⟨⟨⟨_,h3⟩,_⟩,h5⟩,h1⟩:=hc
        exact ⟨x,hr 0 x rfl,h1,Nat.le_of_ble_eq_true h3,fun e he=>by simpa using List.all_eq_true.mp h5 e he⟩
      · exact moreFor_mem r (n+1) f hr' h
    | false =>
      rw [hc] at h
      exact moreFor_mem r (n+1) f hr' h
theorem ready_less {i:Nat} {listed:Array Bool} (h:i∈Region.ready .any (moreOps ops) listed):i∈Region.ready .any ops listed:=by
  rw [mem_ready] at h ⊢
  obtain ⟨h0,o',ho',hall⟩:=h
  refine ⟨h0,?_⟩
  cases ho:ops[i]? with
  | none=>rw [more_none ho] at ho';cases ho'
  | some o =>
    rw [more_get ho] at ho'
    cases ho'
    exact ⟨o,rfl,fun e he hb=>hall e (by unfold moreOp;simp only [Array.mem_append];exact Or.inl he) hb⟩
theorem least {p:Nat→Prop} (h:∃ n,p n):∃ n,p n∧∀ m,m<n→¬ p m:=by
  obtain ⟨n,hn⟩:=h
  induction n using Nat.strongRecOn with
  | _ n ih =>
    by_cases hx:∃ m,m<n∧p m
    · obtain ⟨m,h1,h2⟩:=hx
      exact ih m h1 h2
    · exact ⟨n,hn,fun m hm hp=>hx ⟨m,hm,hp⟩⟩
theorem ready_more {i:Nat} {listed:Array Bool} (hsz:listed.size=ops.size) (hno:∀ f of,f<i→f∈Region.ready .any ops listed→ops[f]? = some of→takeOk ops.toList f of=false) (h:i∈Region.ready .any ops listed):i∈Region.ready .any (moreOps ops) listed:=by
  have h':=h
  rw [mem_ready] at h' ⊢
  obtain ⟨h0,o,ho,hall⟩:=h'
  refine ⟨h0,_,more_get ho,fun e he hb=>?_⟩
  unfold moreOp at he
  simp only [Array.mem_append] at he
  rcases he with he | he
  · exact hall e he hb
  · simp only [List.mem_toArray,List.mem_map] at he
    obtain ⟨f,hf,rfl⟩:=he
    obtain ⟨of,hof,t1,t2,t3⟩:=moreFor_mem _ 0 f (fun k x hk=>by rw [Nat.zero_add];exact hk) hf
    rw [Array.getElem?_toList] at hof
    show listed.getD f false=true
    cases hl:listed.getD f false with
    | true=>rfl
    | false =>
      exfalso
      have hlt:f<listed.size:=by rw [hsz];exact (Array.getElem?_eq_some_iff.mp hof).1
      have hl1:listed.getD f true=false:=by
        simp only [Array.getD_eq_getD_getElem?,Array.getElem?_eq_getElem hlt,Option.getD_some] at hl ⊢
        exact hl
      have:=hno f of t2 (mem_ready.mpr ⟨hl1,of,hof,fun e he hb=>by
        obtain ⟨e',he',hb',hon⟩:=edges_mem (t3 e.on (edges_of he hb))
        rw [← hon]
        exact hall e' (by simpa using he') hb'⟩) hof
      rw [t1] at this;cases this
theorem takes_apart {all:List Oper} {f:Nat} {o:Oper} (h:takeOk all f o=true):∀ (j:Nat) (oj:Oper),all[j]? = some oj→j=f∨j∈edges o∨f∈edges oj∨o.apart all.toArray oj=true:=by
  unfold takeOk at h
  rw [Bool.and_eq_true] at h
  intro j oj hj
  have:=allFrom_get all 0 h.2 j oj hj
  rw [Nat.zero_add] at this
  simp only [Bool.or_eq_true,List.contains_iff_mem] at this
  rcases this with ((q | q) | q) | q
  · exact Or.inl (Nat.eq_of_beq_eq_true q)
  · exact Or.inr (Or.inl q)
  · exact Or.inr (Or.inr (Or.inl q))
  · exact Or.inr (Or.inr (Or.inr q))
theorem more_any (hok:moreOk ops.toList=true) (hQ:∀ e a w,Q e a w→e = .normal):∀ (fuel:Nat) (listed:Array Bool) (a:Act) (w:World),listed.size=ops.size→wpAny P .any (moreOps ops) Q fuel listed a w→wpAny P .any ops Q fuel listed a w:=by
  have hsel:∀ (j:Nat) (o:Oper) cs b,ops[j]? = some o→o.op ≠ .select cs b:=by
    intro j o cs b ho e
    unfold moreOk at hok
    rw [Bool.and_eq_true] at hok
    have:=List.all_eq_true.mp hok.1 o (by have:=Array.mem_of_getElem? ho;simpa using this)
    rw [e] at this;cases this
  have nil:∀ (listed:Array Bool),listed.size=ops.size→Region.ready .any (moreOps ops) listed=[]→Region.ready .any ops listed=[]:=by
    intro listed hsz h
    refine List.eq_nil_iff_forall_not_mem.mpr fun i hi=>?_
    obtain ⟨i,hi,hmin⟩:=least ⟨i,hi⟩
    have:=ready_more hsz (fun f of hf h1 h2=>absurd h1 (hmin f hf)) hi
    rw [h] at this;cases this
  intro fuel
  induction fuel with
  | zero =>
    intro listed a w hsz h
    exact ⟨nil listed hsz h.1,h.2⟩
  | succ fuel ih =>
    intro listed a w hsz h
    by_cases hx:∃ f of,f∈Region.ready .any ops listed∧ops[f]? = some of∧takeOk ops.toList f of=true
    · obtain ⟨f,⟨of,h1,h2,h3⟩,hmin⟩:=least hx
      have hw:=more_wpOp (h.2 f (ready_more hsz (fun g og hg q1 q2=>by
        cases q3:takeOk ops.toList g og with
        | false=>rfl
        | true=>exact absurd ⟨og,q1,q2,q3⟩ (hmin g hg)) h1))
      have ht:=h3
      have hg:of.guard=none∧((∃ t n,of.op = .extract (.tmp t) n)∨∃ t,of.op = .move (.tmp t)):=by
        unfold takeOk at h3
        rw [Bool.and_eq_true] at h3
        have h3:=h3.1
        unfold isTake at h3
        rw [Bool.and_eq_true,Option.isNone_iff_eq_none] at h3
        refine ⟨h3.1,?_⟩
        have h3:=h3.2
        split at h3
        · next t n e=>exact Or.inl ⟨t,n,e⟩
        · next t e=>exact Or.inr ⟨t,e⟩
        · cases h3
      obtain ⟨hg,hop⟩:=hg
      have hwant:∀ y,Region.wanted of y=true:=fun y=>by unfold Region.wanted;rw [hg]
      unfold wpOp at hw
      simp only [h2] at hw
      rw [if_pos (hwant _)] at hw
      have hw:∃ v,(∀ w',(execOp a.eval of).run P w' = .ok (.value v) w')∧wpAny P .any (moreOps ops) Q fuel (listed.setIfInBounds f true) (a.put of.dst v) w:=by
        rcases hw with hw | ⟨_,b,w',hl⟩
        · rcases hop with ⟨t,n,hop⟩ | ⟨t,hop⟩
          · have hexec:execOp a.eval of=(do let x ← Instr.extract (a.eval (.tmp t)) n;pure (Next.value x)):=by unfold execOp;simp only [hop]
            unfold Oper.wp at hw
            rw [hexec] at hw
            unfold Instr.extract at hw hexec
            split at hw
            · next vs hvs =>
              split at hw
              · next v hv =>
                refine ⟨v,fun w'=>?_,?_⟩
                · rw [hexec,hvs];simp only [hv];rfl
                · exact hw
              · exact hw.elim
            · exact hw.elim
          · have hexec:∀ w',(execOp a.eval of).run P w' = .ok (.value (a.eval (.tmp t))) w':=fun w'=>by unfold execOp;simp only [hop];rfl
            unfold Oper.wp at hw
            rw [hexec] at hw
            exact ⟨_,hexec,hw⟩
        · have:=hQ _ _ _ hl;cases this
      obtain ⟨v,hv,hw⟩:=hw
      refine wpAny_first h2 hsel (fun c a w hq=>by have:=hQ _ _ _ hq;cases this) fuel listed a w (fun j oj hj hne hun hno=>?_) h1 (Or.inl ⟨hwant _,hv⟩) (ih _ _ _ (by simpa using hsz) hw)
      rcases takes_apart ht j oj (by rw [Array.getElem?_toList];exact hj) with q | q | q | q
      · exact absurd q hne
      · exfalso
        obtain ⟨e,he,hb,hon⟩:=edges_mem q
        obtain ⟨_,o2,ho2,hall⟩:=mem_ready.mp h1
        rw [h2] at ho2
        cases ho2
        have:=hall e (by simpa using he) hb
        rw [hon] at this
        have hlt:j<listed.size:=by rw [hsz];exact (Array.getElem?_eq_some_iff.mp hj).1
        simp only [Array.getD_eq_getD_getElem?,Array.getElem?_eq_getElem hlt,Option.getD_some] at this hun
        rw [this] at hun;cases hun
      · exfalso
        obtain ⟨e,he,hb,hon⟩:=edges_mem q
        exact hno e (by simpa using he) hb hon
      · simpa using q
    · have hno:∀ i f of,f<i→f∈Region.ready .any ops listed→ops[f]? = some of→takeOk ops.toList f of=false:=fun i f of _ h1 h2=>by
        cases h3:takeOk ops.toList f of with
        | false=>rfl
        | true=>exact absurd ⟨f,of,h1,h2,h3⟩ hx
      refine ⟨fun hn=>h.1 (List.eq_nil_iff_forall_not_mem.mpr fun i hi=>?_),fun i hi=>?_⟩
      · have:=ready_less hi
        rw [hn] at this;cases this
      · exact wpOp_mono (fun a' w' h'=>ih _ a' w' (by simpa using hsz) h') (more_wpOp (h.2 i (ready_more hsz (hno i) hi)))
end
end Go.Proofs.YtnohkcklakipoaaGreatDoor.Ev
