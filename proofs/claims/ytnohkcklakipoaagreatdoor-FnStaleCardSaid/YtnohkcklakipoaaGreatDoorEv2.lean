/- Each operation that only computes, in the model. -/
import Derived.Test.YtnohkcklakipoaaGreatDoorEv1
import Derived.Lib.ConvBytes
import Derived.Deep.Upon
namespace Go.Proofs.YtnohkcklakipoaaGreatDoor.Ev
open Go Go.RowKit
set_option linter.unusedVariables false
set_option linter.unusedSimpArgs false
variable {ρ:Type}
abbrev Pure (P:Program) (E:Env) (μ:Lie) (st:St) (a:Act) (w:World) (o:Oper) (K:V→Option ρ) (r:ρ):Prop :=
  ∃ X v,K X=some r∧RepV E w μ st.bl X v∧RunsTo' P w (execOp a.eval o) v
theorem runsTo_of {P:Program} {w:World} {s:Sem Value} {v:Value} (h:s.run P w = .ok v w):RunsTo' P w (do pure (.value (← s))) v:=by
  simp [RunsTo',h]
section
variable {P:Program} {cx:Cx} {E:Env} {w0 w:World} {μ:Lie} {st:St} {a:Act} {o:Oper} {K:V→Option ρ} {r:ρ}
theorem int_of {x:Operand} {k:IntKind} {n:Int} (hR:Rel E w0 μ st a w) (h:st.get x = .at (.int k n)):a.eval x = .int k n:=by
  have:=hR.get x;rw [h] at this;exact this
theorem str_of {x:Operand} {s:ByteArray} (hR:Rel E w0 μ st a w) (h:st.get x = .at (.str s)):a.eval x = .string s:=by
  have:=hR.get x;rw [h] at this;exact this
theorem bool_of {x:Operand} {b:Bool} (hR:Rel E w0 μ st a w) (h:st.get x = .at (.bool b)):a.eval x = .bool b:=by
  have:=hR.get x;rw [h] at this;exact this
theorem pure_load (hcx:cx.ok P) (hR:Rel E w0 μ st a w) {t:TypeId} {x:Operand} (ho:o.op = .load t x) (h:evPure cx o st K=some r):Pure P E μ st a w o K r:=by
  unfold evPure at h;simp only [ho] at h
  split at h
  · next ty cs off ht hc =>
    obtain ⟨hle,h⟩:=cond_none h
    have hle:off+ty.size≤cs.length:=Nat.le_of_ble_eq_true hle
    obtain ⟨blk,base,vs,hv,hrep,hcell⟩:=cellsAt_sound hR.mem (hR.get x) hc
    have hlen:=hrep.length
    refine ⟨_,_,h,takeOut_sound hrep hle,?_⟩
    unfold RunsTo' execOp
    simp only [ho]
    refine runsTo_of ?_
    rw [hv]
    show ((Instr.sureAddr _ >>= fun ad=>loadVar t ad):Sem Value).run P w=_
    simp only [Instr.sureAddr,Sem.run_bind,Sem.run_pure,Result.andThen_ok]
    exact run_loadVar (hcx.ty t ty ht) (vs:=(vs.drop off).take ty.size) (by simp;omega) (fun j c hj=>by
      obtain ⟨hj,_⟩:=getElem?_part hj
      rw [Nat.add_assoc];exact hcell _ _ hj)
  · cases h
theorem sure_sound {bl:List Blk} {X Y:V} {v:Value} (hx:RepV E w μ bl X v) (h:sure bl X=some Y):Y=X∧∃ ad,ad.spot=none∧v = .pointer (some ad):=by
  unfold sure at h
  split at h
  · split at h
    · next b off cs hb =>
      cases h
      obtain ⟨k,c,_,e⟩:=hx.2 cs hb
      exact ⟨rfl,_,rfl,e⟩
    · cases h
  · split at h
    · next b g i off g' own nf t l hb =>
      obtain ⟨hg,h⟩:=cond_none h
      cases h
      obtain ⟨_,k,c,_,e⟩:=(hx.2 _ _ _ _ _ hb).2 (by simpa using hg)
      exact ⟨rfl,_,rfl,e⟩
    · cases h
  · cases h
    obtain ⟨blk,base,cs,e,_⟩:=hx
    exact ⟨rfl,_,rfl,e⟩
  · cases h
theorem moved_sound {bl:List Blk} {X Y:V} {v:Value} (hx:RepV E w μ bl X v) (h:sure bl X=some Y) (d:Nat):∃ b f,v = .pointer (some ⟨b,f,none⟩)∧RepV E w μ bl (moved d Y) (.pointer (some ⟨b,f+d,none⟩)):=by
  unfold sure at h
  split at h
  · next b off =>
    split at h
    · next cs hb =>
      cases h
      obtain ⟨⟨_,hlt⟩,hp⟩:=hx
      obtain ⟨k,c,e1,e⟩:=hp cs hb
      exact ⟨k,off,e,⟨rfl,hlt⟩,fun cs' hb'=>⟨k,c,e1,rfl⟩⟩
    · cases h
  · next b g i off =>
    split at h
    · next g' own nf t l hb =>
      obtain ⟨hg,h⟩:=cond_none h
      cases h
      obtain ⟨⟨_,hlt⟩,hp⟩:=hx
      have hgg:g=g':=by simpa using hg
      obtain ⟨hi,k,c,e1,e⟩:=(hp _ _ _ _ _ hb).2 hgg
      refine ⟨k,i*t.size+off,e,⟨rfl,hlt⟩,fun g2 own2 nf2 t2 l2 hb2=>?_⟩
      rw [hb] at hb2;cases hb2
      exact ⟨Nat.le_of_eq hgg,fun _=>⟨hi,k,c,e1,by rw [Nat.add_assoc]⟩⟩
    · cases h
  · next fr t x off =>
    cases h
    obtain ⟨blk,base,cs,e,h1,h2,h3⟩:=hx
    exact ⟨blk,base+off,e,blk,base,cs,by rw [Nat.add_assoc],h1,h2,h3⟩
  · cases h
theorem pure_nilCheck (hR:Rel E w0 μ st a w) {x:Operand} (ho:o.op = .nilCheck x) (h:evPure cx o st K=some r):Pure P E μ st a w o K r:=by
  unfold evPure at h;simp only [ho] at h
  split at h
  · next Y hs =>
    obtain ⟨e,ad,_,hv⟩:=sure_sound (hR.get x) hs
    refine ⟨_,a.eval x,h,e ▸ hR.get x,?_⟩
    unfold RunsTo' execOp
    simp only [ho,hv]
    rfl
  · cases h
theorem pure_fieldAddr (hcx:cx.ok P) (hR:Rel E w0 μ st a w) {t:TypeId} {x:Operand} {f:Nat} (ho:o.op = .fieldAddr t x f) (h:evPure cx o st K=some r):Pure P E μ st a w o K r:=by
  unfold evPure at h;simp only [ho] at h
  split at h
  · next ty ht =>
    split at h
    · next d u Y hf hs =>
      obtain ⟨b,g,hv,hrep⟩:=moved_sound (hR.get x) hs d
      obtain ⟨fs,fld,h1,h2,h3,h4⟩:=(hcx.ty t ty ht).field hf
      refine ⟨_,_,h,hrep,?_⟩
      unfold RunsTo' execOp
      simp only [ho]
      refine runsTo_of ?_
      have hsz:u.size≠0:=by have:=u.size_pos;omega
      simp [Instr.fieldAt,run_underlying h1,h2,hv,Instr.sureAddr,fieldPlace,run_sizeOf h4,hsz,add_none,h3]
    · cases h
  · cases h
theorem pure_field (hcx:cx.ok P) (hR:Rel E w0 μ st a w) {t:TypeId} {x:Operand} {f:Nat} (ho:o.op = .field t x f) (h:evPure cx o st K=some r):Pure P E μ st a w o K r:=by
  unfold evPure at h;simp only [ho] at h
  split at h
  · next ty ht =>
    split at h
    · next d u cs hf hs =>
      obtain ⟨hle,h⟩:=cond_none h
      have hle:=Nat.le_of_ble_eq_true hle
      have hx:=hR.get x
      rw [hs] at hx
      obtain ⟨vs,hv,hrep⟩:=hx
      obtain ⟨fs,fld,h1,h2,h3,h4⟩:=(hcx.ty t ty ht).field hf
      have hlen:=hrep.length
      refine ⟨_,_,h,takeOut_sound hrep hle,?_⟩
      unfold RunsTo' execOp
      simp only [ho]
      refine runsTo_of ?_
      have hpos:=u.size_pos
      have hne:vs.drop d≠[]:=by
        intro e
        have:=congrArg List.length e
        simp at this;omega
      cases ha:u.isAgg with
      | true=>simp [Instr.field,run_underlying h1,h2,hv,asAgg,part,run_isAgg h4,ha,run_sizeOf h4,h3,List.extract_toArray]
      | false =>
        have hd:vs[d]? = some (((vs.drop d).take u.size).headD undef):=by
          have hlt:d<vs.length:=by omega
          rw [List.getElem?_eq_getElem hlt]
          congr 1
          cases hq:(vs.drop d).take u.size with
          | nil=>exfalso;have:=congrArg List.length hq;simp at this;omega
          | cons y r =>
            have:((vs.drop d).take u.size)[0]? = some y:=by rw [hq];rfl
            rw [List.getElem?_take_of_lt (by omega),List.getElem?_drop] at this
            simp only [Nat.add_zero,List.getElem?_eq_getElem hlt] at this
            simpa using this
        simp [Instr.field,run_underlying h1,h2,hv,asAgg,part,run_isAgg h4,ha,h3,hd]
    · cases h
  · cases h
theorem sliceTy_sound (hcx:cx.ok P) {t:TypeId} {u:Ty} (h:sliceTy cx t u=true):∃ e,P.underlying t=some (.slice e)∧TyOf P e u:=by
  unfold sliceTy at h
  split at h
  · next e he =>
    cases hq:Ty.eq? e u with
    | none=>rw [hq] at h;cases h
    | some p =>
      obtain ⟨p⟩:=p
      subst p
      obtain ⟨⟨te,h1,h2⟩,_⟩:=hcx.ty t _ he
      exact ⟨te,h1,h2⟩
  · cases h
theorem strTy_sound (hcx:cx.ok P) {t:TypeId} (h:strTy cx t=true):P.underlying t=some .string:=by
  unfold strTy at h
  split at h
  · next he=>exact (hcx.ty t _ he).1
  · cases h
theorem pure_indexAddr (hcx:cx.ok P) (hR:Rel E w0 μ st a w) {t:TypeId} {x i:Operand} (ho:o.op = .indexAddr t x i) (h:evPure cx o st K=some r):Pure P E μ st a w o K r:=by
  unfold evPure at h;simp only [ho] at h
  split at h
  · next k i' hi =>
    have ei:=int_of hR hi
    split at h
    · next fr u l hx =>
      obtain ⟨hs,h⟩:=cond_none h
      obtain ⟨hb,h⟩:=cond_none h
      obtain ⟨hb0,hb1⟩:=of_decide_eq_true hb
      obtain ⟨e,he,hte⟩:=sliceTy_sound hcx hs
      have hr:=hR.get x
      rw [hx] at hr
      have hh:Holds w (E.D μ st.bl fr) (.slice u) l [a.eval x]:=hr
      simp only [Holds] at hh
      obtain ⟨ad,cap,ev,hcap,hel⟩:=hh
      simp only [List.cons.injEq,and_true] at ev
      have hlt:i'.toNat<l.length:=by omega
      obtain ⟨blk,off,cs,rfl,hS,hH,hc⟩:=hel i'.toNat hlt
      refine ⟨_,.pointer (some ⟨blk,off+i'.toNat*u.size,none⟩),h,⟨blk,off+i'.toNat*u.size,cs,by simp,hS,?_,hc⟩,?_⟩
      · rw [List.getD_eq_getElem?_getD,List.getElem?_eq_getElem hlt];exact hH
      · unfold RunsTo' execOp
        simp only [ho]
        refine runsTo_of ?_
        simp [Instr.indexAt,ei,ev,asIntOf,run_underlying he,hb0,hb1,run_sizeOf hte,add_none]
    · next b g hx =>
      split at h
      · next g' own nf u l hbl =>
        obtain ⟨hs,h⟩:=cond_none h
        obtain ⟨hb,h⟩:=cond_none h
        obtain ⟨hb0,hb1⟩:=of_decide_eq_true hb
        simp only [Bool.and_eq_true] at hs
        obtain ⟨hg,hs⟩:=hs
        have hgg:g=g':=by simpa using hg
        obtain ⟨e,he,hte⟩:=sliceTy_sound hcx hs
        have hr:=hR.get x
        rw [hx] at hr
        obtain ⟨⟨_,hlt0⟩,hp⟩:=hr
        have hrow:=(hp _ _ _ _ _ hbl).2 hgg
        have hlt:i'.toNat<l.length:=by omega
        cases hμ:μ b with
        | none=>rw [hμ] at hrow;obtain ⟨_,h0⟩:=hrow;omega
        | some kc =>
          obtain ⟨k',cap⟩:=kc
          rw [hμ] at hrow
          have ev:a.eval x = .slice (some ⟨k',0,none⟩) l.length cap:=hrow
          refine ⟨_,.pointer (some ⟨k',i'.toNat*u.size,none⟩),h,⟨⟨rfl,hlt0⟩,fun g2 own2 nf2 u2 l2 hb2=>?_⟩,?_⟩
          · rw [hbl] at hb2;cases hb2
            exact ⟨Nat.le_of_eq hgg,fun _=>⟨hlt,k',cap,hμ,by simp⟩⟩
          · unfold RunsTo' execOp
            simp only [ho]
            refine runsTo_of ?_
            simp [Instr.indexAt,ei,ev,asIntOf,run_underlying he,hb0,hb1,run_sizeOf hte,add_none]
      · cases h
    · cases h
  · cases h
theorem byte_at {s:ByteArray} {i:Nat} (h:i<s.size):s[i]? = some (s.get! i):=by
  have:s[i]? = some s[i]:=by simp [h]
  rw [this]
  congr 1
  show s.get i h=s.get! i
  simp only [ByteArray.get!,ByteArray.get]
  rw [getElem!_pos s.data i (by simpa using h)]
theorem pure_index (hcx:cx.ok P) (hR:Rel E w0 μ st a w) {t:TypeId} {x i:Operand} (ho:o.op = .index t x i) (h:evPure cx o st K=some r):Pure P E μ st a w o K r:=by
  unfold evPure at h;simp only [ho] at h
  split at h
  · next s k i' hx hi =>
    obtain ⟨hs,h⟩:=cond_none h
    obtain ⟨hb,h⟩:=cond_none h
    obtain ⟨hb0,hb1⟩:=of_decide_eq_true hb
    have ei:=int_of hR hi
    have ex:=str_of hR hx
    refine ⟨_,_,h,rfl,?_⟩
    unfold RunsTo' execOp
    simp only [ho]
    refine runsTo_of ?_
    have hlt:i'.toNat<s.size:=by omega
    simp only [Instr.index,ei,ex,asIntOf,Sem.run_bind,Sem.run_pure,Result.andThen_ok,run_underlying (strTy_sound hcx hs),hb0,if_true,byte_at hlt]
    unfold bt;rw [stuckOn_eq]
  · cases h
theorem pure_unOp (hR:Rel E w0 μ st a w) {op:UnOp} {t:TypeId} {x:Operand} (ho:o.op = .unOp op t x) (h:evPure cx o st K=some r):Pure P E μ st a w o K r:=by
  unfold evPure at h;simp only [ho] at h
  split at h
  · next b hx =>
    have ex:=bool_of hR hx
    refine ⟨_,_,h,rfl,?_⟩
    unfold RunsTo' execOp
    simp only [ho]
    exact runsTo_of (by simp [Op.unary,ex])
  · next k n hx =>
    have ex:=int_of hR hx
    refine ⟨_,_,h,rfl,?_⟩
    unfold RunsTo' execOp
    simp only [ho]
    exact runsTo_of (by simp [Op.unary,ex,Op.intArith,wr_eq])
  · cases h
theorem pure_binOp (hcx:cx.ok P) (hR:Rel E w0 μ st a w) {op:BinOp} {t t':TypeId} {x y:Operand} (ho:o.op = .binOp op t x y t') (h:evPure cx o st K=some r):Pure P E μ st a w o K r:=by
  unfold evPure at h;simp only [ho] at h
  obtain ⟨X,v,h1,h2,h3⟩:=evBin_sound hcx hR (t:=t) h
  refine ⟨X,v,h1,h2,?_⟩
  unfold RunsTo' execOp
  simp only [ho]
  exact runsTo_of h3
theorem pure_move (hR:Rel E w0 μ st a w) {x:Operand} (ho:o.op = .move x∨o.op = .assign x) (h:K (st.get x)=some r):Pure P E μ st a w o K r:=by
  refine ⟨_,_,h,hR.get x,?_⟩
  unfold RunsTo' execOp
  rcases ho with ho | ho <;> simp [ho]
theorem pure_pick (hR:Rel E w0 μ st a w) {c x y:Operand} (ho:o.op = .pick c x y) (h:evPure cx o st K=some r):Pure P E μ st a w o K r:=by
  unfold evPure at h;simp only [ho] at h
  split at h
  · next b hc =>
    have ec:=bool_of hR hc
    cases b with
    | true=>exact ⟨_,_,h,hR.get x,by unfold RunsTo' execOp;simp [ho,ec,asBool]⟩
    | false=>exact ⟨_,_,h,hR.get y,by unfold RunsTo' execOp;simp [ho,ec,asBool]⟩
  · cases h
end
end Go.Proofs.YtnohkcklakipoaaGreatDoor.Ev
namespace Go.Proofs.YtnohkcklakipoaaGreatDoor.Ev
open Go Go.RowKit
set_option linter.unusedVariables false
set_option linter.unusedSimpArgs false
variable {ρ:Type}
section
variable {P:Program} {cx:Cx} {E:Env} {w0 w:World} {μ:Lie} {st:St} {a:Act} {o:Oper} {K:V→Option ρ} {r:ρ}
theorem loadBound_some (hR:Rel E w0 μ st a w) {x:Operand} {d n:Int} (h:loadBound st (some x) d=some n):∃ k,a.eval x = .int k n:=by
  unfold loadBound at h
  simp only at h
  split at h
  · next k m hx=>cases h;exact ⟨k,int_of hR hx⟩
  · cases h
theorem run_sliceBound {v:Value} {k:IntKind} {n:Int} {y:Nat} {c:BoundsCode} (hv:v = .int k n) (h0:0≤n) (h1:n≤y):(Instr.sliceBound v y c).run P w = .ok n.toNat w:=by
  subst hv
  simp [Instr.sliceBound,asIntOf,h0,h1]
theorem run_sliceBounds (hR:Rel E w0 μ st a w) {lo hi:Option Operand} {len cap:Nat} {m n:Int} {isS:Bool} (hcap:len≤cap) (hl:loadBound st lo 0=some m) (hh:loadBound st hi len=some n) (h0:0≤m) (h1:m≤n) (h2:n≤(len:Int)) :
    (Instr.sliceBounds isS len cap (lo.map a.eval) (hi.map a.eval) none).run P w = .ok (m.toNat,n.toNat,cap) w:=by
  have hn:∀ y:Nat,n.toNat=y→m≤(y:Int):=by intro y e;omega
  unfold Instr.sliceBounds
  cases hi with
  | none =>
    have e:n=(len:Int):=by simp [loadBound] at hh;exact hh.symm
    subst e
    cases lo with
    | none =>
      have e:m=0:=by simp [loadBound] at hl;exact hl.symm
      subst e
      simp
    | some x =>
      obtain ⟨k,ek⟩:=loadBound_some hR hl
      simp [run_sliceBound (P:=P) (w:=w) ek h0 (y:=len) (by omega)]
  | some y =>
    obtain ⟨k',ek'⟩:=loadBound_some hR hh
    have r1:∀ c,(Instr.sliceBound (a.eval y) cap c).run P w = .ok n.toNat w:=fun c=>run_sliceBound ek' (by omega) (by omega)
    cases lo with
    | none =>
      have e:m=0:=by simp [loadBound] at hl;exact hl.symm
      subst e
      simp [r1]
    | some x =>
      obtain ⟨k,ek⟩:=loadBound_some hR hl
      simp [r1,run_sliceBound (P:=P) (w:=w) ek h0 (y:=n.toNat) (by omega)]
theorem slice_sound (hcx:cx.ok P) (hR:Rel E w0 μ st a w) {t:TypeId} {X:V} {x:Operand} {lo hi:Option Operand} {S:Nat→Prop}
    (hx:(∃ s,X = .at (.str s)∧a.eval x = .string s)∨(∃ fr u l,X = .at (.sl fr u l)∧Holds w (E.D μ st.bl fr) (.slice u) l [a.eval x]))
    (h:evSlice cx t X lo hi st K=some r) :
    ∃ Y v,K Y=some r∧RepV E w μ st.bl Y v∧(Instr.sliceAt t (a.eval x) (lo.map a.eval) (hi.map a.eval) none).run P w = .ok v w:=by
  rcases hx with ⟨s,rfl,ev⟩ | ⟨fr,u,l,rfl,hh⟩
  · unfold evSlice at h
    simp only at h
    split at h
    · next m n hl hn =>
      obtain ⟨hs,h⟩:=cond_none h
      obtain ⟨hb,h⟩:=cond_none h
      obtain ⟨h0,h1,h2⟩:=of_decide_eq_true hb
      refine ⟨_,_,h,rfl,?_⟩
      have hrun:=run_sliceBounds (P:=P) hR (isS:=false) (Nat.le_refl s.size) hl hn h0 h1 h2
      simp [Instr.sliceAt,run_underlying (strTy_sound hcx hs),Instr.slice,ev,hrun]
    · cases h
  · unfold evSlice at h
    simp only at h
    split at h
    · next m n hl hn =>
      obtain ⟨hs,h⟩:=cond_none h
      obtain ⟨hb,h⟩:=cond_none h
      obtain ⟨h0,h1,h2⟩:=of_decide_eq_true hb
      obtain ⟨e,he,hte⟩:=sliceTy_sound hcx hs
      simp only [Holds] at hh
      obtain ⟨ad,cap,ev,hcap,hel⟩:=hh
      simp only [List.cons.injEq,and_true] at ev
      have hrun:=run_sliceBounds (P:=P) hR (isS:=true) hcap hl hn h0 h1 h2
      refine ⟨_,.slice (if cap=m.toNat then ad else ad.map (·.add (m.toNat*u.size))) (n.toNat-m.toNat) (cap-m.toNat),h,?_,?_⟩
      · show Holds w (E.D μ st.bl fr) (.slice u) ((l.drop m.toNat).take (n-m).toNat) _
        have hlen:((l.drop m.toNat).take (n-m).toNat).length=n.toNat-m.toNat:=by
          simp only [List.length_take,List.length_drop];omega
        simp only [Holds]
        refine ⟨if cap=m.toNat then ad else ad.map (·.add (m.toNat*u.size)),cap-m.toNat,by rw [hlen],by rw [hlen];omega,fun i hi'=>?_⟩
        have hi2:m.toNat+i<l.length:=by rw [hlen] at hi';omega
        obtain ⟨blk,off,cs,e1,hS,hH,hc⟩:=hel (m.toNat+i) hi2
        have hne:¬ cap=m.toNat:=by omega
        refine ⟨blk,off+m.toNat*u.size,cs,by rw [if_neg hne,e1];simp [add_none],hS,?_,fun j c hj=>?_⟩
        · have:((l.drop m.toNat).take (n-m).toNat)[i]=l[m.toNat+i]:=by simp
          rw [this];exact hH
        · have:=hc j c hj
          rw [Nat.add_mul] at this
          rwa [show off+m.toNat*u.size+i*u.size+j=off+(m.toNat*u.size+i*u.size)+j by omega]
      · simp [Instr.sliceAt,run_underlying he,Instr.slice,ev,hrun,run_sizeOf hte]
    · cases h
theorem pure_slice (hcx:cx.ok P) (hR:Rel E w0 μ st a w) {t:TypeId} {x:Operand} {lo hi:Option Operand} (ho:o.op = .slice t x lo hi none)
    (h:evSlice cx t (st.get x) lo hi st K=some r):Pure P E μ st a w o K r:=by
  have hr:=hR.get x
  have hx:(∃ s,st.get x = .at (.str s)∧a.eval x = .string s)∨(∃ fr u l,st.get x = .at (.sl fr u l)∧Holds w (E.D μ st.bl fr) (.slice u) l [a.eval x]):=by
    unfold evSlice at h
    split at h
    · next s hs=>rw [hs] at hr;exact Or.inl ⟨s,hs,hr⟩
    · next fr u l hs=>rw [hs] at hr;exact Or.inr ⟨fr,u,l,hs,hr⟩
    · cases h
  obtain ⟨Y,v,h1,h2,h3⟩:=slice_sound (S:=fun _=>True) hcx hR hx h
  refine ⟨Y,v,h1,h2,?_⟩
  unfold RunsTo' execOp
  simp only [ho]
  exact runsTo_of h3
theorem pure_extract (hR:Rel E w0 μ st a w) {x:Operand} {i:Nat} (ho:o.op = .extract x i) (h:evPure cx o st K=some r):Pure P E μ st a w o K r:=by
  unfold evPure at h;simp only [ho] at h
  split at h
  · next xs hx =>
    have hr:=hR.get x
    rw [hx] at hr
    obtain ⟨vs,ev,hall⟩:=hr
    split at h
    · next cs hi =>
      obtain ⟨v,hv,hrv⟩:=hall.get hi
      obtain ⟨us,e,hus⟩:=hrv
      refine ⟨_,v,h,⟨us,e,hus⟩,?_⟩
      unfold RunsTo' execOp
      simp only [ho]
      exact runsTo_of (by simp [Instr.extract,ev,hv])
    · next c hi =>
      obtain ⟨v,hv,hrv⟩:=hall.get hi
      refine ⟨_,v,h,RepV.at hrv.1,?_⟩
      unfold RunsTo' execOp
      simp only [ho]
      exact runsTo_of (by simp [Instr.extract,ev,hv])
    · cases h
  · cases h
theorem capsOf_sound (hR:Rel E w0 μ st a w):∀ (xs:List Operand) (cs:List (Nat × Nat)),evPure.capsOf st xs=some cs→All2 (fun (p:Nat × Nat) u=>isPtr μ st.bl p.1 p.2 u) cs (xs.map a.eval)
  | [],cs,h=>by simp [evPure.capsOf] at h;subst h;trivial
  | x :: xs,cs,h=>by
    simp only [evPure.capsOf] at h
    split at h
    · next b off r hx hr =>
      cases h
      have:=hR.get x
      rw [hx] at this
      exact ⟨this,capsOf_sound hR xs r hr⟩
    · cases h
theorem pure_makeFunc (hR:Rel E w0 μ st a w) {f:FuncId} {fs caps:Array Operand} (ho:o.op = .makeFunc (.func f) fs caps) (h:evPure cx o st K=some r):Pure P E μ st a w o K r:=by
  unfold evPure at h;simp only [ho] at h
  have hf:fs=#[]:=by simpa using (cond_none h).1
  replace h:=(cond_none h).2
  split at h
  · next cs hc =>
    have hcaps:=capsOf_sound hR _ _ hc
    refine ⟨_,.func (.func f) #[] (caps.map a.eval),h,⟨caps.toList.map a.eval,by rw [show caps.map a.eval=(caps.toList.map a.eval).toArray from Array.toList_inj.mp (by simp)],hcaps⟩,?_⟩
    unfold RunsTo' execOp
    simp only [ho]
    exact runsTo_of (by simp [Instr.makeFunc,hf])
  · cases h
theorem bytes_of_cells:∀ (l:List Int) (cs:List Value),cs=l.map (fun n=>.int .u8 n)→∀ (s:ByteArray),
    ((forIn cs s fun c s=>(match c with
      | .int .u8 n=>pure (ForInStep.yield (s.push (UInt8.ofNat n.toNat)))
      | _=>stuck "bytesToString: byte expected" : Sem (ForInStep ByteArray)))).run P w = .ok ⟨(s.data.toList++l.map fun n=>UInt8.ofNat n.toNat).toArray⟩ w
  | [],cs,e,s=>by subst e;simp
  | n :: l,cs,e,s=>by
    subst e
    simp only [List.map_cons,List.forIn_cons,Sem.run_bind,Sem.run_pure,Result.andThen_ok]
    rw [bytes_of_cells l _ rfl]
    congr 2
    apply Array.toList_inj.mp
    simp [ByteArray.push]
def Env.X (E:Env) (μ:Lie) (bl:List Blk) (bs:List Nat) (fr:Bool) (k:Nat):Prop:=(E.N k∨(fr=false∧E.S0 k))∧(¬ Own μ bl k∨∃ b c g own nf t l,b∈bs∧μ b=some (k,c)∧bl[b]? = some (.arr g own nf t l))
theorem Env.D_X {bl:List Blk} {bs:List Nat} {fr:Bool} {k:Nat} (h:E.D μ bl fr k):E.X μ bl bs fr k:=⟨h.1,Or.inl h.2⟩
theorem row_holds {bl:List Blk} (hm:Mem E w0 w μ bl) {b g:Nat} {own nf:Bool} {t:Ty} {l:List t.den} (hb:bl[b]? = some (.arr g own nf t l)) {v:Value} (hv:RowVal (μ b) l.length v) {bs:List Nat} (hbs:b∈bs) :
    Holds w (E.X μ bl bs (nf||t.flat)) (.slice t) l [v]:=by
  simp only [Holds]
  rcases hm.blocks b _ hb with ⟨h1,h2⟩ | ⟨k,cap,vals,ty,fz,h1,h2,h3,_,h5,h6,h7⟩
  · rw [h1] at hv
    obtain ⟨rfl,h0⟩:=hv
    exact ⟨none,0,by rw [h0],Nat.le_of_eq h0,fun i hi=>by omega⟩
  · rw [h1] at hv
    have hv:v = .slice (some ⟨k,0,none⟩) l.length cap:=hv
    subst hv
    refine ⟨_,cap,rfl,h5,fun i hi=>⟨k,0,(vals.toList.drop (i*t.size)).take t.size,rfl,⟨Or.inl h2,Or.inr ⟨b,cap,_,_,_,_,_,hbs,h1,hb⟩⟩,?_,fun j c hj=>?_⟩⟩
    · have hh:=h7 i hi
      cases hf:t.flat with
      | true=>exact hh.flat hf
      | false=>rw [Bool.or_false];exact hh.weaken fun k hk _=>Env.D_X hk
    · obtain ⟨hj,_⟩:=getElem?_part hj
      rw [cell_row h3,Nat.zero_add];exact hj
theorem view_sound {bl:List Blk} (hm:Mem E w0 w μ bl) {x:A} {v:Value} (hx:RepA E w μ bl x v) {bs:List Nat} (hbs:∀ b g,x = .os b g→b∈bs) :
    match x.view bl with
    | .sl fr t l=>Holds w (E.X μ bl bs fr) (.slice t) l [v]
    | y=>y = .undef∨(y=x∧∀ b g,x ≠ .os b g):=by
  cases x with
  | os b g =>
    simp only [A.view]
    cases hb:bl[b]? with
    | none=>exact Or.inl rfl
    | some blk =>
      cases blk with
      | arr g' own nf t l =>
        simp only
        cases hg:g == g' with
        | false=>exact Or.inl rfl
        | true=>exact row_holds hm hb ((hx.2 _ _ _ _ _ hb).2 (by simpa using hg)) (hbs b g rfl)
      | var cs=>exact Or.inl rfl
      | dead=>exact Or.inl rfl
  | sl fr t l=>exact Holds.weaken (fun k hk _=>Env.D_X hk) (t:=.slice t) hx
  | undef=>exact Or.inl rfl
  | int k n=>exact Or.inr ⟨rfl,fun _ _=>by simp⟩
  | bool b=>exact Or.inr ⟨rfl,fun _ _=>by simp⟩
  | str s=>exact Or.inr ⟨rfl,fun _ _=>by simp⟩
  | err b=>exact Or.inr ⟨rfl,fun _ _=>by simp⟩
  | ptr b off=>exact Or.inr ⟨rfl,fun _ _=>by simp⟩
  | ep b g i off=>exact Or.inr ⟨rfl,fun _ _=>by simp⟩
  | pp fr t y off=>exact Or.inr ⟨rfl,fun _ _=>by simp⟩
  | fn f caps=>exact Or.inr ⟨rfl,fun _ _=>by simp⟩
  | nil t =>
    have hx:v = .slice none 0 0:=hx
    subst hx
    exact ⟨none,0,rfl,Nat.le_refl _,fun i hi=>absurd hi (Nat.not_lt_zero _)⟩
  | old t l=>exact Holds.weaken (fun k hk _=>Env.D_X (Env.O_D hk)) (t:=.slice t) hx
theorem run_bytesToString {S:Nat→Prop} {l:List Int} {v:Value} (h:Holds w S (.slice (.int .u8)) l [v]):(Conv.bytesToString v).run P w = .ok (.string (strOf l)) w:=by
  simp only [Holds] at h
  obtain ⟨ad,cap,ev,hcap,hel⟩:=h
  simp only [List.cons.injEq,and_true] at ev
  subst ev
  cases ad with
  | none =>
    have:l=[]:=by
      cases l with
      | nil=>rfl
      | cons n r=>obtain ⟨_,_,_,e,_⟩:=hel 0 (by simp);cases e
    subst this
    rfl
  | some ad =>
    have hc:∀ j v,(l.map fun n=>Value.int .u8 n)[j]? = some v→w.cell? (ad.add j)=some v:=by
      intro j v hj
      rw [List.getElem?_map] at hj
      have hlt:j<l.length:=by
        rcases Nat.lt_or_ge j l.length with g | g
        · exact g
        · rw [List.getElem?_eq_none g] at hj;cases hj
      rw [List.getElem?_eq_getElem hlt] at hj
      obtain ⟨blk,off,cs,e,_,hcs,hcell⟩:=hel j hlt
      cases e
      cases hj
      have:=hcell 0 _ (by rw [hcs];rfl)
      rw [add_none]
      simpa [Ty.size] using this
    have hload:=run_loadCells_list (P:=P) (w:=w) ad (l.map fun n=>Value.int .u8 n) hc
    rw [List.length_map] at hload
    simp only [Conv.bytesToString,Sem.run_bind,hload,Result.andThen_ok]
    rw [← Array.forIn_toList]
    have hb:=bytes_of_cells (P:=P) (w:=w) l _ rfl ByteArray.empty
    rw [show (List.map (fun n=>Value.int IntKind.u8 n) l).toArray.toList=List.map (fun n=>Value.int IntKind.u8 n) l from rfl]
    refine (congrArg (fun x=>Result.andThen x _) ?_).trans (b:=(Result.ok (strOf l) w).andThen fun s w=>Sem.run P (pure (Value.string s)) w) rfl
    refine Eq.trans ?_ (hb.trans rfl)
    congr 1
theorem pure_convert (hcx:cx.ok P) (hR:Rel E w0 μ st a w) {s d:TypeId} {x:Operand} (ho:o.op = .convert s d x) (h:evPure cx o st K=some r):Pure P E μ st a w o K r:=by
  unfold evPure at h;simp only [ho] at h
  split at h
  · next k k' hs hd =>
    split at h
    · next k2 n hx =>
      have ex:=int_of hR hx
      refine ⟨_,_,h,rfl,?_⟩
      unfold RunsTo' execOp
      simp only [ho]
      refine runsTo_of ?_
      simp [convert,run_underlying (hcx.ty s _ hs).1,run_underlying (hcx.ty d _ hd).1,ex,Conv.intToInt,wr_eq]
    · cases h
  · next hs hd =>
    split at h
    · next m hx =>
      have ex:=str_of hR hx
      refine ⟨_,_,h,rfl,?_⟩
      unfold RunsTo' execOp
      simp only [ho]
      refine runsTo_of ?_
      simp [convert,run_underlying (hcx.ty s _ hs).1,run_underlying (hcx.ty d _ hd).1,ex]
    · cases h
  · next hs hd =>
    split at h
    · next y hx =>
      have hr:=hR.get x
      rw [hx] at hr
      split at h
      · next fr l hy =>
        have hr':RepA E w μ st.bl y (a.eval x):=by
          cases y <;> first | exact hr | (simp [A.view] at hy)
        have hv:=view_sound hR.mem hr' (bs:=rowsOf [y]) (fun b g e=>by subst e;simp [rowsOf])
        rw [hy] at hv
        have hrun:=run_bytesToString (P:=P) (w:=w) hv
        obtain ⟨⟨e,he,hte⟩,_⟩:=hcx.ty s _ hs
        refine ⟨_,_,h,rfl,?_⟩
        unfold RunsTo' execOp
        simp only [ho]
        refine runsTo_of ?_
        have hsl:∃ q n c,a.eval x = .slice q n c:=by
          have hv':=hv
          simp only [Holds] at hv'
          obtain ⟨ad,cap,ev,_⟩:=hv'
          simp only [List.cons.injEq,and_true] at ev
          exact ⟨_,_,_,ev⟩
        obtain ⟨q,n,c,eq⟩:=hsl
        rw [eq] at hrun ⊢
        simp [convert,run_underlying he,run_underlying (hcx.ty d _ hd).1,run_underlying hte.1,hrun]
      · cases h
    · cases h
  · cases h
end
end Go.Proofs.YtnohkcklakipoaaGreatDoor.Ev
namespace Go.Proofs.YtnohkcklakipoaaGreatDoor.Ev
open Go Go.RowKit
set_option linter.unusedVariables false
set_option linter.unusedSimpArgs false
variable {ρ:Type}
theorem All2.writeAt {α β:Type} {R:α→β→Prop}:∀ {as:List α} {bs:List β} {xs:List α} {ys:List β} (off:Nat),All2 R as bs→All2 R xs ys→All2 R (writeAt as off xs) (writeAt bs off ys)
  | _,_,[],[],_,h,_=>h
  | _,_,_ :: _,_ :: _,off,h,h'=>All2.writeAt (off+1) (h.set off h'.1) h'.2
  | _,_,[],_ :: _,_,_,h'=>h'.elim
  | _,_,_ :: _,[],_,_,h'=>h'.elim
theorem writeAt_length {α:Type}:∀ (xs as:List α) (off:Nat),(writeAt as off xs).length=as.length
  | [],_,_=>rfl
  | x :: xs,as,off=>by rw [writeAt,writeAt_length xs];simp
theorem fold_writeAt {α:Type}:∀ (xs:List α) (cells:Array α) (off n:Nat),
    (xs.zipIdx n).foldl (fun cs (p:α × Nat)=>cs.setIfInBounds (off+p.2) p.1) cells=(writeAt cells.toList (off+n) xs).toArray
  | [],cells,off,n=>by simp [writeAt]
  | x :: xs,cells,off,n=>by
    rw [List.zipIdx_cons,List.foldl_cons,fold_writeAt xs _ off (n+1),writeAt]
    simp [Nat.add_assoc]
section
variable {P:Program} {cx:Cx} {E:Env} {w0 w:World} {μ:Lie} {st:St} {a:Act} {o:Oper} {K:V→Option ρ} {r:ρ}
theorem full_sound {bl:List Blk} {X:V} {v:Value} {cs:List A} (hx:RepV E w μ bl X v) (h:X.full=some cs):RepAs E w μ bl cs v.cells.toList:=by
  unfold V.full at h
  split at h
  · cases h
  · next x hne =>
    cases h
    have hr:RepA E w μ bl x v:=by
      cases x <;> first | exact hx | exact absurd rfl (hne)
    have h1:=hr.one
    have:v.cells=#[v]:=by cases v <;> first | rfl | simp [Value.oneCell'] at h1
    rw [this]
    exact ⟨hr,trivial⟩
  · cases h
    obtain ⟨vs,rfl,hr⟩:=hx
    exact hr
  · cases h
theorem nils_rep {bl:List Blk}:∀ t:Ty,RepAs E w μ bl t.nils (zeroVals t)
  | .int _=>⟨rfl,trivial⟩
  | .bool=>⟨rfl,trivial⟩
  | .str=>⟨rfl,trivial⟩
  | .err=>⟨rfl,trivial⟩
  | .adr=>⟨rfl,trivial⟩
  | .slice _=>⟨rfl,trivial⟩
  | .pair a b=>All2.append (nils_rep a) (nils_rep b)
  | .struct b=>nils_rep b
theorem nils_length:∀ t:Ty,t.nils.length=t.size
  | .int _ | .bool | .str | .err | .adr | .slice _=>rfl
  | .pair a b=>by simp only [Ty.nils,List.length_append,Ty.size,nils_length a,nils_length b]
  | .struct b=>by simp only [Ty.nils,Ty.size,nils_length b]
theorem zero_rep {bl:List Blk} (t:Ty):RepAs E w μ bl (zeroCells t) (zeroVals t):=nils_rep t
theorem TyF.all {P:Program}:∀ {ty:Ty} {fs:List Field} {off:Nat},(TyF P ty).2 fs off→∀ f∈fs,∃ u,TyOf P f.type u:=by
  intro ty
  have base:∀ {ty:Ty} {fs:List Field} {off:Nat},(∀ a b,ty ≠ .pair a b)→(TyF P ty).2 fs off→∀ f∈fs,∃ u,TyOf P f.type u:=by
    intro ty fs off hp h f hf
    obtain ⟨g,rfl,_,h2,_⟩:=TyF.last hp h
    simp at hf;subst hf
    exact ⟨ty,h2⟩
  induction ty with
  | pair a b iha ihb =>
    intro fs off h f hf
    simp only [TyF] at h
    split at h
    · next g q r =>
      obtain ⟨_,⟨h2,_⟩,h3⟩:=h
      rcases List.mem_cons.mp hf with rfl | hf
      · exact ⟨a,h2⟩
      · exact ihb h3 f hf
    · exact h.elim
  | int k=>exact fun h=>base (by intro a b e;cases e) h
  | bool=>exact fun h=>base (by intro a b e;cases e) h
  | str=>exact fun h=>base (by intro a b e;cases e) h
  | err=>exact fun h=>base (by intro a b e;cases e) h
  | adr=>exact fun h=>base (by intro a b e;cases e) h
  | slice e _=>exact fun h=>base (by intro a b e;cases e) h
  | struct b _=>exact fun h=>base (by intro a b e;cases e) h
theorem run_places {P:Program} {w:World}:∀ (fs:List Field),(∀ f∈fs,∃ u,TyOf P f.type u) →
    ∃ ps:List (Nat × Nat),(fs.mapM (m:=Sem) fun f=>do pure (f.offset,← sizeOf f.type)).run P w = .ok ps w ∧
      ∀ (i:Nat) (f:Field) (u:Ty),fs[i]? = some f→TyOf P f.type u→ps[i]? = some (f.offset,u.size)
  | [],_=>⟨[],by simp,fun i f u h=>by simp at h⟩
  | f :: fs,h=>by
    obtain ⟨u,hu⟩:=h f (List.mem_cons_self ..)
    obtain ⟨ps,h1,h2⟩:=run_places (P:=P) (w:=w) fs fun g hg=>h g (List.mem_cons_of_mem _ hg)
    refine ⟨(f.offset,u.size) :: ps,by simp only [List.mapM_cons,Sem.run_bind,Sem.run_pure,Result.andThen_ok,run_sizeOf hu,h1],fun i g u' hg hu'=>?_⟩
    cases i with
    | zero =>
      simp at hg;subst hg
      have e1:=run_sizeOf hu w
      rw [run_sizeOf hu'] at e1
      simp only [Result.ok.injEq,and_true] at e1
      simp [e1]
    | succ n=>simp at hg ⊢;exact h2 n g u' hg hu'
theorem fillIn_sound {t:Ty} {fs:List Field} (hR:Rel E w0 μ st a w) {ps:List (Nat × Nat)}
    (hps:∀ i d u,t.field i=some (d,u)→ps[i]? = some (d,u.size)) (hfit:∀ i d u,t.field i=some (d,u)→d+u.size≤t.size) :
    ∀ (xs:List (Nat × Operand)) (cs:List A) (vals:List Value) (out:List A),cs.length=t.size→RepAs E w μ st.bl cs vals→fillIn t st xs cs=some out →
      ∃ vs,Instr.fill (ps.toArray[·]?) vals.toArray (xs.map fun p=>(p.1,a.eval p.2))=some vs.toArray∧RepAs E w μ st.bl out vs
  | [],cs,vals,out,hl,hc,h=>by
    simp only [fillIn] at h;cases h
    exact ⟨vals,rfl,hc⟩
  | (i,x) :: xs,cs,vals,out,hl,hc,h=>by
    simp only [fillIn] at h
    split at h
    · next d u hf =>
      split at h
      · next v hv =>
        obtain ⟨hlen,h⟩:=cond_none h
        have hlen:v.length=u.size:=by simpa using hlen
        have hrv:=full_sound (hR.get x) hv
        have hn:(a.eval x).cells.size=u.size:=by rw [← hlen,hrv.length,Array.length_toList]
        obtain ⟨vs,h1,h2⟩:=fillIn_sound hR (fs:=fs) hps hfit xs (writeAt cs d v) (writeAt vals d (a.eval x).cells.toList) out (by rw [writeAt_length,hl]) (hc.writeAt d hrv) h
        refine ⟨vs,?_,h2⟩
        rw [List.map_cons,Instr.fill]
        have hp:ps.toArray[i]? = some (d,u.size):=by rw [List.getElem?_toArray];exact hps i d u hf
        simp only [hp]
        have hvl:=hc.length
        have hfit':=hfit i d u hf
        rw [if_neg (by rw [hn];simp;omega)]
        rw [← h1]
        congr 1
        have:=fold_writeAt (a.eval x).cells.toList vals.toArray d 0
        rw [Nat.add_zero] at this
        rw [← Array.foldl_toList,Array.toList_zipIdx]
        exact this
      · cases h
    · cases h
theorem fieldIn_fits:∀ (t:Ty) (i off d:Nat) (u:Ty),t.fieldIn i off=some (d,u)→off≤d∧d+u.size≤off+t.size:=by
  intro t
  induction t with
  | pair a b iha ihb =>
    intro i off d u h
    cases i with
    | zero=>simp only [Ty.fieldIn] at h;cases h;simp only [Ty.size];omega
    | succ n =>
      simp only [Ty.fieldIn] at h
      have:=ihb n _ d u h
      simp only [Ty.size];omega
  | _ =>
    intro i off d u h
    cases i with
    | zero=>simp only [Ty.fieldIn] at h;cases h;exact ⟨Nat.le_refl _,Nat.le_refl _⟩
    | succ n=>simp [Ty.fieldIn] at h
theorem pure_build (hcx:cx.ok P) (hR:Rel E w0 μ st a w) {t:TypeId} {xs:Array (Nat × Operand)} (ho:o.op = .build t xs) (h:evPure cx o st K=some r):Pure P E μ st a w o K r:=by
  unfold evPure at h;simp only [ho] at h
  split at h
  · next b ht =>
    split at h
    · next out hf =>
      have hty:=hcx.ty t _ ht
      obtain ⟨⟨fs,hu,hfs⟩,_⟩:=id hty
      obtain ⟨ps,h1,h2⟩:=run_places (P:=P) (w:=w) fs.toList (TyF.all hfs)
      obtain ⟨vs,e1,e2⟩:=fillIn_sound (fs:=fs.toList) hR (ps:=ps) (t:=.struct b)
        (fun i d u hd=>by
          obtain ⟨fs',f,q1,q2,q3,q4⟩:=hty.field hd
          rw [hu] at q1;cases q1
          rw [← q3];exact h2 i f u (by rw [Array.getElem?_toList];exact q2) q4)
        (fun i d u hd=>by have:=fieldIn_fits b i 0 d u hd;simp only [Ty.size];omega)
        xs.toList _ (zeroVals (.struct b)) out (nils_length _) (zero_rep _) hf
      refine ⟨_,.agg vs.toArray,h,⟨vs,rfl,e2⟩,?_⟩
      unfold RunsTo' execOp
      simp only [ho]
      refine runsTo_of ?_
      have hm:((fs.mapM (m:=Sem) fun f=>do pure (f.offset,← sizeOf f.type)):Sem (Array (Nat × Nat))).run P w = .ok ps.toArray w:=by
        rw [Array.mapM_eq_mapM_toList]
        simp only [Sem.run_map,h1,Result.andThen_ok]
      simp only [Instr.build,Sem.run_bind,run_zeroValue hty,Result.andThen_ok,run_underlying hu,hm,Array.toList_map,zeroV_cells hty,e1,Sem.run_pure]
    · cases h
  · cases h
theorem lenOf_sound {bl:List Blk} {X:V} {v:Value} {n:Nat} {t:Bool} (hx:RepV E w μ bl X v) (h:lenOf bl X=some (t,n)):(t=false∧∃ q c,v = .slice q n c)∨(t=true∧∃ s,v = .string s∧s.size=n):=by
  unfold lenOf at h
  split at h
  · cases h
    have hx':=hx
    simp only [RepV,RepA,Holds] at hx'
    obtain ⟨q,c,e,_⟩:=hx'
    simp only [List.cons.injEq,and_true] at e
    exact Or.inl ⟨rfl,q,c,e⟩
  · cases h
    have hx:v = .slice none 0 0:=hx
    exact Or.inl ⟨rfl,none,0,hx⟩
  · cases h
    have hx':=hx
    simp only [RepV,RepA,Holds] at hx'
    obtain ⟨q,c,e,_⟩:=hx'
    simp only [List.cons.injEq,and_true] at e
    exact Or.inl ⟨rfl,q,c,e⟩
  · next s =>
    cases h
    exact Or.inr ⟨rfl,s,hx,rfl⟩
  · next b g =>
    split at h
    · next g' own nf u l hb =>
      obtain ⟨hg,h⟩:=cond_none h
      cases h
      have hrow:=(hx.2 _ _ _ _ _ hb).2 (by simpa using hg)
      cases hμ:μ b with
      | none=>rw [hμ] at hrow;obtain ⟨e,e2⟩:=hrow;exact Or.inl ⟨rfl,none,0,by rw [e,e2]⟩
      | some kc=>obtain ⟨k,c⟩:=kc;rw [hμ] at hrow;exact Or.inl ⟨rfl,_,c,hrow⟩
    · cases h
  · cases h
theorem pure_call (hcx:cx.ok P) (hR:Rel E w0 μ st a w) {c:Call} (ho:o.op = .call c) (h:evPure cx o st K=some r):Pure P E μ st a w o K r:=by
  have hargs:∀ xs,c.args.toList=xs→c.args.map a.eval=(xs.map a.eval).toArray:=fun xs e=>Array.toList_inj.mp (by simp [e])
  unfold evPure at h;simp only [ho] at h
  split at h
  · next hb =>
    split at h
    · next x t hx ht =>
      split at h
      · next n e hl hty =>
        rcases lenOf_sound (hR.get x) hl with ⟨_,q,cap,ev⟩ | ⟨h0,_⟩
        · obtain ⟨⟨u,hu,_⟩,_⟩:=hcx.ty t _ hty
          refine ⟨_,.int .i64 n,h,rfl,?_⟩
          have h2:c.argTypes=#[t]:=Array.toList_inj.mp (by simp [ht])
          unfold RunsTo' execOp
          simp only [ho]
          simp [resolve,hb,invoke,builtin,Builtin.len_,h2,hargs _ hx,run_underlying hu,ev,goInt]
        · cases h0
      · next n hl hty =>
        rcases lenOf_sound (hR.get x) hl with ⟨h0,_⟩ | ⟨_,s,ev,en⟩
        · cases h0
        · have hu:=(hcx.ty t _ hty).1
          refine ⟨_,.int .i64 n,h,rfl,?_⟩
          have h2:c.argTypes=#[t]:=Array.toList_inj.mp (by simp [ht])
          unfold RunsTo' execOp
          simp only [ho]
          simp [resolve,hb,invoke,builtin,Builtin.len_,h2,hargs _ hx,run_underlying hu,ev,goInt,en]
      · cases h
    · cases h
  · next hb =>
    split at h
    · next x y hx =>
      split at h
      · next k m k' n e1 e2 =>
        have ex:=int_of hR e1
        have ey:=int_of hR e2
        refine ⟨_,.int k (if n<m then n else m),h,rfl,?_⟩
        unfold RunsTo' execOp
        simp only [ho]
        simp [resolve,hb,invoke,builtin,Builtin.min_,Builtin.min2,hargs _ hx,ex,ey]
      · cases h
    · cases h
  · next hb =>
    split at h
    · next x y hx =>
      split at h
      · next k m k' n e1 e2 =>
        have ex:=int_of hR e1
        have ey:=int_of hR e2
        refine ⟨_,.int k (if n>m then n else m),h,rfl,?_⟩
        unfold RunsTo' execOp
        simp only [ho]
        simp [resolve,hb,invoke,builtin,Builtin.max_,Builtin.max2,hargs _ hx,ex,ey]
      · cases h
    · cases h
  · cases h
theorem evPure_sound (hcx:cx.ok P) (hR:Rel E w0 μ st a w) (h:evPure cx o st K=some r):Pure P E μ st a w o K r:=by
  cases ho:o.op with
  | move x=>exact pure_move hR (Or.inl ho) (by unfold evPure at h;simpa only [ho] using h)
  | assign x=>exact pure_move hR (Or.inr ho) (by unfold evPure at h;simpa only [ho] using h)
  | pick c x y=>exact pure_pick hR ho h
  | load t x=>exact pure_load hcx hR ho h
  | nilCheck x=>exact pure_nilCheck hR ho h
  | fieldAddr t x f=>exact pure_fieldAddr hcx hR ho h
  | field t x f=>exact pure_field hcx hR ho h
  | indexAddr t x i=>exact pure_indexAddr hcx hR ho h
  | index t x i=>exact pure_index hcx hR ho h
  | binOp op t x y t'=>exact pure_binOp hcx hR ho h
  | unOp op t x=>exact pure_unOp hR ho h
  | slice t x lo hi mx =>
    cases mx with
    | none=>exact pure_slice hcx hR ho (by unfold evPure at h;simpa only [ho] using h)
    | some m=>unfold evPure at h;simp [ho] at h
  | convert s d x=>exact pure_convert hcx hR ho h
  | build t xs=>exact pure_build hcx hR ho h
  | makeFunc f fs caps =>
    cases f with
    | func f=>exact pure_makeFunc hR ho h
    | _=>unfold evPure at h;simp [ho] at h
  | extract x i=>exact pure_extract hR ho h
  | call c=>exact pure_call hcx hR ho h
  | _=>unfold evPure at h;simp [ho] at h
end
end Go.Proofs.YtnohkcklakipoaaGreatDoor.Ev
namespace Go.Proofs.YtnohkcklakipoaaGreatDoor.Ev
open Go Go.RowKit
set_option linter.unusedVariables false
set_option linter.unusedSimpArgs false
variable {ρ:Type}
def Eff (P:Program) (E:Env) (w0:World) (μ:Lie) (st:St) (a:Act) (w:World) (o:Oper) (K:V→St→Option ρ) (r:ρ):Prop :=
  ∃ X st' μ' v w',K X st'=some r∧RepV E w' μ' st'.bl X v∧Rel E w0 μ' st' a w'∧st'.tmps=st.tmps∧Goes w μ st w' μ' st' ∧
    ((execOp a.eval o).run P w = .ok (.value v) w'∨((execOp a.eval o).run P w = .ok .skip w'∧X=V.undef))
section
variable {P:Program} {cx:Cx} {E:Env} {w0 w:World} {μ:Lie} {st:St} {a:Act} {o:Oper} {K:V→St→Option ρ} {r:ρ}
theorem Eff.of_pure (hR:Rel E w0 μ st a w) (h:Pure P E μ st a w o (fun v=>K v st) r):Eff P E w0 μ st a w o K r:=by
  obtain ⟨X,v,h1,h2,h3⟩:=h
  exact ⟨X,st,μ,v,w,h1,h2,hR,rfl,Goes.refl _ _ _,Or.inl h3⟩
theorem below_push (w:World) (o:Obj):Below w.heap.size w { w with heap:=w.heap.push o } :=
  (Below.refl _ w).alloc (Nat.le_refl _) o
theorem heap_push_new (w:World) (o:Obj):({ w with heap:=w.heap.push o }:World).heap[w.heap.size]? = some o:=by
  simp
theorem unfrozen_zero (vals:Array Value):unfrozen vals (0,0):=fun i _ h=>by simp at h
theorem snoc_row_none {bl:List Blk} (hm:Mem E w0 w μ bl) (t:Ty):Mem E w0 w (μ.put bl.length none) (bl++[.arr 0 true true t []])∧Evo w μ bl w (μ.put bl.length none) (bl++[.arr 0 true true t []]) :=
  hm.snoc (Below.refl _ w) _ none (fun k c e=>by cases e) fun _=>Or.inl ⟨Lie.put_same _ _ _,rfl⟩
theorem snoc_var {bl:List Blk} (hm:Mem E w0 w μ bl) {cs:List A} {vs:List Value} (hr:RepAs E w μ bl cs vs) (ty:TypeId) :
    Mem E w0 { w with heap:=w.heap.push (.cells vs.toArray ty) } (μ.put bl.length (some (w.heap.size,0))) (bl++[.var cs]) ∧
    Evo w μ bl { w with heap:=w.heap.push (.cells vs.toArray ty) } (μ.put bl.length (some (w.heap.size,0))) (bl++[.var cs]) :=
  hm.snoc (below_push w _) _ _ (fun k c e=>by cases e;exact Nat.le_refl _) fun ev =>
    ⟨w.heap.size,0,vs.toArray,ty,(0,0),Lie.put_same _ _ _,E.hN _ hm.big,heap_push_new _ _,unfrozen_zero _,ev.reps hr⟩
theorem getElem?_snoc_last {α:Type} (l:List α) (x:α):(l++[x])[l.length]? = some x:=by simp
theorem snoc_row {bl:List Blk} (hm:Mem E w0 w μ bl) {w':World} (hb:Below w.heap.size w w') {k cap:Nat} {vals:Array Value} {ty:TypeId} {fz:Nat × Nat} (hk:w.heap.size≤k) (hh:w'.heap[k]? = some (.cells vals ty fz)) (hf:unfrozen vals fz)
    {nf:Bool} {t:Ty} {l:List t.den} (hl:l.length≤cap) (hsz:vals.size=cap*t.size) (hel:Elems w (E.D μ bl nf) t l vals.toList) (g:Nat) :
    Mem E w0 w' (μ.put bl.length (some (k,cap))) (bl++[.arr g true nf t l])∧Evo w μ bl w' (μ.put bl.length (some (k,cap))) (bl++[.arr g true nf t l]) :=
  hm.snoc hb _ _ (fun k' c e=>by cases e;exact hk) fun ev =>
    Or.inr ⟨k,cap,vals,ty,fz,Lie.put_same _ _ _,E.hN _ (Nat.le_trans hm.big hk),hh,hf,hl,hsz,hel.mono (ev.D (E:=E))⟩
theorem openRows_sound:∀ (cs:List A) (vs:List Value) (bl:List Blk) (μ:Lie),Mem E w0 w μ bl→Trees E w μ bl→RepAs E w μ bl cs vs →
    ∃ μ',Mem E w0 w μ' (bl++(openRows cs bl.length).2)∧Evo w μ bl w μ' (bl++(openRows cs bl.length).2)∧RepAs E w μ' (bl++(openRows cs bl.length).2) (openRows cs bl.length).1 vs∧Trees E w μ' (bl++(openRows cs bl.length).2)
  | [],[],bl,μ,hm,ht,_=>⟨μ,by simpa [openRows] using hm,by simpa [openRows] using Evo.refl w μ bl,trivial,by simpa [openRows] using ht⟩
  | [],_ :: _,_,_,_,_,h=>h.elim
  | _ :: _,[],_,_,_,_,h=>h.elim
  | c :: cs,v :: vs,bl,μ,hm,ht,h=>by
    obtain ⟨h1,h2⟩:=h
    by_cases hc:∃ t,c = .nil t
    · obtain ⟨t,rfl⟩:=hc
      have h1:v = .slice none 0 0:=h1
      subst h1
      obtain ⟨m1,e1⟩:=snoc_row_none hm t
      have ht1:=ht.snoc hm (Below.refl _ w) e1 fun g u l e=>by cases e;exact Or.inl ⟨rfl,rfl⟩
      obtain ⟨μ',m2,e2,r2,ht2⟩:=openRows_sound cs vs _ _ m1 ht1 (e1.reps h2)
      simp only [List.length_append,List.length_cons,List.length_nil,Nat.zero_add] at m2 e2 r2 ht2
      have e:bl++(openRows (A.nil t :: cs) bl.length).2=bl++[Blk.arr 0 true true t []]++(openRows cs (bl.length+1)).2:=by
        rw [openRows,List.append_assoc];rfl
      refine ⟨μ',e ▸ m2,e ▸ e1.trans e2,?_,e ▸ ht2⟩
      rw [e,openRows]
      refine ⟨e2.rep (x:=.os bl.length 0) ⟨⟨rfl,by simp⟩,fun g' own nf u l hb=>?_⟩,r2⟩
      rw [getElem?_snoc_last] at hb
      cases hb
      exact ⟨Nat.le_refl _,fun _=>by rw [Lie.put_same];exact ⟨rfl,rfl⟩⟩
    · obtain ⟨μ',m2,e2,r2,ht2⟩:=openRows_sound cs vs bl μ hm ht h2
      have e:openRows (c :: cs) bl.length=(c :: (openRows cs bl.length).1,(openRows cs bl.length).2):=by
        rw [openRows]
        intro t e
        exact hc ⟨t,e⟩
      refine ⟨μ',by rw [e];exact m2,by rw [e];exact e2,?_,by rw [e];exact ht2⟩
      rw [e]
      exact ⟨e2.rep h1,r2⟩
theorem openRows_length:∀ (cs:List A) (n:Nat),(openRows cs n).1.length=cs.length
  | [],_=>rfl
  | c :: cs,n=>by
    by_cases hc:∃ t,c = .nil t
    · obtain ⟨t,rfl⟩:=hc
      rw [openRows,List.length_cons,List.length_cons,openRows_length cs]
    · rw [openRows,List.length_cons,List.length_cons,openRows_length cs]
      intro t e
      exact hc ⟨t,e⟩
theorem goes_snoc {bl':List Blk} {μ':Lie} {w':World} {ext:List Blk} (ev:Evo w μ st.bl w' μ' (st.bl++ext)):Goes w μ st w' μ' { st with bl:=st.bl++ext } :=
  ⟨ev,rfl,fun b _ hlt=>by simp [List.getElem?_append_left hlt]⟩
theorem eff_alloc (hcx:cx.ok P) (hR:Rel E w0 μ st a w) {inl:Inl ρ} {path:List Nat} {t:TypeId} (ho:o.op = .alloc t) (h:evOp cx inl path o st K=some r):Eff P E w0 μ st a w o K r:=by
  unfold evOp at h;simp only [ho] at h
  split at h
  · next ty ht =>
    have hty:=hcx.ty t _ ht
    obtain ⟨μ1,m1,e1,r1,ht1⟩:=openRows_sound _ _ st.bl μ hR.mem hR.tree (zero_rep ty)
    obtain ⟨m2,e2⟩:=snoc_var m1 r1 t
    have ev:=e1.trans e2
    refine ⟨_,_,_,.pointer (some ⟨w.heap.size,0,none⟩),_,h,?_,hR.next m2 ev (ht1.snoc m1 (below_push w _) e2 fun _ _ _ e=>by cases e),rfl,?_,Or.inl ?_⟩
    · refine ⟨⟨rfl,by simp⟩,fun cs hb=>⟨w.heap.size,0,?_,rfl⟩⟩
      rw [show st.bl.length+(openRows (zeroCells ty) st.bl.length).2.length=(st.bl++(openRows (zeroCells ty) st.bl.length).2).length by simp,Lie.put_same]
    · rw [List.append_assoc]
      exact goes_snoc (bl':=[]) (by rw [← List.append_assoc];exact ev)
    · unfold execOp
      simp only [ho]
      simp [Instr.alloc,run_zeroValue hty,newVar,newRow,zeroV_cells hty]
  · cases h
theorem eff_box (hcx:cx.ok P) (hR:Rel E w0 μ st a w) {inl:Inl ρ} {path:List Nat} {t:TypeId} {x:Operand} (ho:o.op = .box t x) (h:evOp cx inl path o st K=some r):Eff P E w0 μ st a w o K r:=by
  unfold evOp at h;simp only [ho] at h
  split at h
  · next ty cs ht hf =>
    obtain ⟨hlen,h⟩:=cond_none h
    have hr:=full_sound (hR.get x) hf
    obtain ⟨m2,e2⟩:=snoc_var hR.mem hr t
    refine ⟨_,_,_,.pointer (some ⟨w.heap.size,0,none⟩),_,h,?_,hR.next m2 e2 (hR.tree.snoc hR.mem (below_push w _) e2 fun _ _ _ e=>by cases e),rfl,goes_snoc (bl':=[]) e2,Or.inl ?_⟩
    · exact ⟨⟨rfl,by simp⟩,fun cs hb=>⟨w.heap.size,0,Lie.put_same _ _ _,rfl⟩⟩
    · unfold execOp
      simp only [ho]
      simp [Instr.box,newVar,newRow]
  · cases h
theorem eff_nil (hcx:cx.ok P) (hR:Rel E w0 μ st a w) {x:Operand} (ho:o.op = .move x∨o.op = .assign x) {e:Ty} (hn:nilSlice x=true)
    (h:K (.at (.os st.bl.length 0)) { st with bl:=st.bl++[.arr 0 true true e []] }=some r):Eff P E w0 μ st a w o K r:=by
  have hx:x = .const (.slice none 0 0):=by
    unfold nilSlice at hn;split at hn <;> first | rfl | cases hn
  obtain ⟨m2,e2⟩:=snoc_row_none hR.mem e
  refine ⟨_,_,_,.slice none 0 0,_,h,?_,hR.next m2 e2 (hR.tree.snoc hR.mem (Below.refl _ w) e2 fun g u l e=>by cases e;exact Or.inl ⟨rfl,rfl⟩),rfl,goes_snoc (bl':=[]) e2,Or.inl ?_⟩
  · refine ⟨⟨rfl,by simp⟩,fun g' own nf u l hb=>?_⟩
    rw [getElem?_snoc_last] at hb
    cases hb
    exact ⟨Nat.le_refl _,fun _=>by rw [Lie.put_same];exact ⟨rfl,rfl⟩⟩
  · unfold execOp
    rcases ho with ho | ho <;> simp [ho,hx,Act.eval]
theorem TreeOk.freeze {bl:List Blk} {τ:Nat→List Nat} (h:TreeOk E w μ bl τ) {b g:Nat} {nf:Bool} {t:Ty} {l:List t.den} (hb:bl[b]? = some (.arr g true nf t l)):TreeOk E w μ (bl.set b (.arr g false nf t l)) τ:=by
  have hself:=getElem?_set_self (y:=Blk.arr g false nf t l) hb
  have hrow:∀ (c g':Nat) (u:Ty) (l':List u.den),(bl.set b (Blk.arr g false nf t l))[c]? = some (Blk.arr g' true true u l')→bl[c]? = some (Blk.arr g' true true u l'):=by
    intro c g' u l' hc
    by_cases e:c=b
    · subst e;rw [hself] at hc;cases hc
    · rw [getElem?_set_ne' e] at hc;exact hc
  have htree:∀ c,Tree (bl.set b (.arr g false nf t l)) c→Tree bl c:=fun c ⟨g',u,l',q⟩=>⟨g',u,l',hrow c g' u l' q⟩
  have hown:∀ k,Own μ (bl.set b (.arr g false nf t l)) k→Own μ bl k:=by
    rintro k ⟨c,d,hc,hm⟩
    refine ⟨c,d,hc,?_⟩
    unfold mine at hm ⊢
    by_cases e:c=b
    · subst e;rw [hself] at hm;cases hm
    · rw [getElem?_set_ne' e] at hm;exact hm
  exact ⟨fun c g' u l' hc=>h.nest c g' u l' (hrow c g' u l' hc),fun c hc k hk=>let ⟨h1,h2,h3⟩:=h.new c (htree c hc) k hk;⟨h1,h2,fun ho=>h3 (hown k ho)⟩,fun c hc=>h.nodup c (htree c hc),fun c c' hc hc'=>h.apart c c' (htree c hc) (htree c' hc')⟩
theorem TreeOk.freeze' {st st':St} {τ:Nat→List Nat} (h:TreeOk E w μ st.bl τ) {b:Nat} (hf:st.freeze b=some st'):TreeOk E w μ st'.bl τ:=by
  unfold St.freeze at hf
  split at hf
  · next g nf t l hb =>
    obtain ⟨_,hf⟩:=cond_none' hf
    cases hf
    exact h.freeze hb
  · cases hf;exact h
theorem TreeOk.freezeAll {τ:Nat→List Nat}:∀ (bs:List Nat) {st st':St},TreeOk E w μ st.bl τ→Ev.freezeAll st bs=some st'→TreeOk E w μ st'.bl τ
  | [],st,st',h,hf=>by simp only [Ev.freezeAll] at hf;cases hf;exact h
  | b :: bs,st,st',h,hf=>by
    simp only [Ev.freezeAll] at hf
    split at hf
    · next st1 h1=>exact TreeOk.freezeAll bs (h.freeze' h1) hf
    · cases hf
theorem freeze_sound {bl:List Blk} (hm:Mem E w0 w μ bl) {b g:Nat} {nf:Bool} {t:Ty} {l:List t.den} (hb:bl[b]? = some (.arr g true nf t l)) :
    Mem E w0 w μ (bl.set b (.arr g false nf t l))∧Evo w μ bl w μ (bl.set b (.arr g false nf t l))∧(∀ k,Own μ (bl.set b (.arr g false nf t l)) k→Own μ bl k∧∀ c,μ b≠some (k,c)):=by
  have hmine:mine bl b:=by unfold mine;rw [hb]
  have hself:=getElem?_set_self (y:=Blk.arr g false nf t l) hb
  have h:=hm.turn (w':=w) (blk':=.arr g false nf t l) hb hmine (μ b) rfl rfl rfl (Nat.le_refl _) (fun _ _ _=>rfl) (Or.inl rfl) (fun cs e=>by cases e)
    (fun g' own nf' t' l' e=>by cases e;exact ⟨g,true,nf,l,rfl,Nat.le_refl _,fun _=>⟨rfl,rfl⟩⟩)
    (fun ev=>by
      rcases hm.blocks b _ hb with ⟨h1,h2⟩ | ⟨k,cap,vals,ty,fz,h1,h2,h3,h4,h5,h6,h7⟩
      · exact Or.inl ⟨by rw [Lie.put_same];exact h1,h2⟩
      · exact Or.inr ⟨k,cap,vals,ty,fz,by rw [Lie.put_same];exact h1,h2,h3,h4,h5,h6,h7.mono (ev.D (E:=E))⟩)
  rw [Lie.put_eq rfl] at h
  refine ⟨h.1,h.2,fun k ho=>?_⟩
  obtain ⟨c,d,hc,hmc⟩:=ho
  have hcb:c≠b:=by
    rintro rfl
    unfold mine at hmc
    rw [hself] at hmc
    cases hmc
  have hmc':mine bl c:=by unfold mine at hmc ⊢;rwa [getElem?_set_ne' hcb] at hmc
  exact ⟨⟨c,d,hc,hmc'⟩,fun e he=>hcb (hm.apart c b k d e hc he (mine_alive hmc') (mine_alive hmine))⟩
theorem goes_set {st:St} {b:Nat} {blk:Blk} {μ':Lie} {w':World} (hl:st.lock.contains b=false) (ev:Evo w μ st.bl w' μ' (st.bl.set b blk)):Goes w μ st w' μ' { st with bl:=st.bl.set b blk } :=
  ⟨ev,rfl,fun c hc _=>by
    have:c≠b:=by
      rintro rfl
      rw [List.contains_eq_mem,decide_eq_false_iff_not] at hl
      exact hl hc
    exact getElem?_set_ne' this⟩
theorem St.freeze_sound {st st':St} (hR:Rel E w0 μ st a w) {b:Nat} (h:st.freeze b=some st') :
    Rel E w0 μ st' a w∧st'.tmps=st.tmps∧Goes w μ st w μ st'∧(∀ k,Own μ st'.bl k→Own μ st.bl k)∧(∀ k c,μ b=some (k,c)→(∃ g own nf t l,st.bl[b]? = some (.arr g own nf t l))→¬ Own μ st'.bl k) ∧
      (∀ (c g:Nat) (own nf:Bool) (t:Ty) (l:List t.den),st.bl[c]? = some (.arr g own nf t l)→∃ own',st'.bl[c]? = some (.arr g own' nf t l)):=by
  unfold St.freeze at h
  split at h
  · next g nf t l hb =>
    obtain ⟨hl,h⟩:=cond_none' h
    cases h
    obtain ⟨m,ev,ho⟩:=Ev.freeze_sound hR.mem hb
    refine ⟨hR.next m ev (let ⟨τ,hτ⟩:=hR.tree;⟨τ,hτ.freeze hb⟩),rfl,goes_set hl ev,fun k hk=>(ho k hk).1,fun k c hk _ hown=>(ho k hown).2 c hk,fun c g' own nf' t' l' hc=>?_⟩
    by_cases e:c=b
    · subst e
      rw [hb] at hc;cases hc
      exact ⟨false,getElem?_set_self hb⟩
    · exact ⟨own,by rw [show ({ st with bl:=st.bl.set b (.arr g false nf t l) }:St).bl=st.bl.set b (.arr g false nf t l) from rfl,getElem?_set_ne' e];exact hc⟩
  · next hne =>
    cases h
    refine ⟨hR,rfl,Goes.refl _ _ _,fun _ h=>h,fun k c hk ⟨g,own,nf,t,l,hb⟩ hown=>?_,fun c g own nf t l hc=>⟨own,hc⟩⟩
    obtain ⟨d,e,hd,hmd⟩:=hown
    have hbd:d=b:=hR.mem.apart d b k e c hd hk (mine_alive hmd) (by unfold alive;rw [hb];trivial)
    subst hbd
    unfold mine at hmd
    rw [hb] at hmd
    simp only at hmd
    subst hmd
    exact hne g nf t l hb
theorem freezeAll_sound:∀ (bs:List Nat) {st st':St},Rel E w0 μ st a w→freezeAll st bs=some st' →
    Rel E w0 μ st' a w∧st'.tmps=st.tmps∧Goes w μ st w μ st'∧(∀ k,Own μ st'.bl k→Own μ st.bl k)∧(∀ b∈bs,∀ k c,μ b=some (k,c)→(∃ g own nf t l,st.bl[b]? = some (.arr g own nf t l))→¬ Own μ st'.bl k) ∧
      (∀ (c g:Nat) (own nf:Bool) (t:Ty) (l:List t.den),st.bl[c]? = some (.arr g own nf t l)→∃ own',st'.bl[c]? = some (.arr g own' nf t l))
  | [],st,st',hR,h=>by simp only [freezeAll] at h;cases h;exact ⟨hR,rfl,Goes.refl _ _ _,fun _ h=>h,fun _ h=>by simp at h,fun c g own nf t l hc=>⟨own,hc⟩⟩
  | b :: bs,st,st',hR,h=>by
    simp only [freezeAll] at h
    split at h
    · next st1 h1 =>
      obtain ⟨r1,t1,g1,o1,f1,k1⟩:=St.freeze_sound hR h1
      obtain ⟨r2,t2,g2,o2,f2,k2⟩:=freezeAll_sound bs r1 h
      refine ⟨r2,t2.trans t1,g1.trans g2,fun k hk=>o1 k (o2 k hk),fun c hc k d hk hb=>?_,fun c g own nf t l hc=>?_⟩
      · rcases List.mem_cons.mp hc with rfl | hc
        · exact fun ho=>f1 k d hk hb (o2 k ho)
        · obtain ⟨g,own,nf,t,l,hb⟩:=hb
          obtain ⟨own',hb'⟩:=k1 _ _ _ _ _ _ hb
          exact f2 c hc k d hk ⟨_,_,_,_,_,hb'⟩
      · obtain ⟨own',hb'⟩:=k1 _ _ _ _ _ _ hc
        exact k2 _ _ _ _ _ _ hb'
    · cases h
theorem Env.X_D {bl bl':List Blk} {bs:List Nat} {fr:Bool} {k:Nat} (h:E.X μ bl bs fr k) (ho:∀ k,Own μ bl' k→Own μ bl k)
    (hf:∀ b∈bs,∀ k c,μ b=some (k,c)→(∃ g own nf t l,bl[b]? = some (.arr g own nf t l))→¬ Own μ bl' k):E.D μ bl' fr k:=by
  refine ⟨h.1,fun hown=>?_⟩
  rcases h.2 with h2 | ⟨b,c,g,own,nf,t,l,hb,hk,hbl⟩
  · exact h2 (ho k hown)
  · exact hf b hb k c hk ⟨_,_,_,_,_,hbl⟩ hown
def RepX (E:Env) (w:World) (μ:Lie) (bl:List Blk) (bs:List Nat) (x:A) (v:Value):Prop :=
  match x with
  | .sl fr t l=>Holds w (E.X μ bl bs fr) (.slice t) l [v]
  | .int k n=>v = .int k n
  | .bool b=>v = .bool b
  | .str s=>v = .string s
  | .err b=>match b with | true=>∃ t u,v = .iface t u | false=>v = .nilIface
  | _=>True
theorem view_rep {bl:List Blk} (hm:Mem E w0 w μ bl) {x:A} {v:Value} (hx:RepA E w μ bl x v) {bs:List Nat} (hbs:∀ b g,x = .os b g→b∈bs):RepX E w μ bl bs (x.view bl) v:=by
  have:=view_sound hm hx hbs
  cases hy:x.view bl with
  | sl fr t l=>rw [hy] at this;exact this
  | undef=>trivial
  | os b g=>trivial
  | ptr b off=>trivial
  | ep b g i off=>trivial
  | pp fr t y off=>trivial
  | fn f caps=>trivial
  | nil t=>trivial
  | old t l=>trivial
  | int k n=>rw [hy] at this;rcases this with e | ⟨e,_⟩ <;> first | (subst e;exact hx) | cases e
  | bool b=>rw [hy] at this;rcases this with e | ⟨e,_⟩ <;> first | (subst e;exact hx) | cases e
  | str s=>rw [hy] at this;rcases this with e | ⟨e,_⟩ <;> first | (subst e;exact hx) | cases e
  | err b=>rw [hy] at this;rcases this with e | ⟨e,_⟩ <;> first | (subst e;exact hx) | cases e
theorem ofCells_sound {bl:List Blk} {bs:List Nat} {need:Bool}:∀ (t:Ty) (cs:List A) (vs:List Value) (x:t.den) (rest:List A),All2 (RepX E w μ bl bs) cs vs→t.ofCells need cs=some (x,rest) →
    ∃ us ws,vs=us++ws∧Holds w (E.X μ bl bs need) t x us∧All2 (RepX E w μ bl bs) rest ws∧∃ pre,cs=pre++rest∧All2 (RepX E w μ bl bs) pre us:=by
  intro t
  induction t with
  | int k =>
    intro cs vs x rest h hc
    cases cs with
    | nil=>simp [Ty.ofCells] at hc
    | cons c cs =>
      cases vs with
      | nil=>exact h.elim
      | cons v vs =>
        cases c <;> simp [Ty.ofCells] at hc
        obtain ⟨rfl,rfl,rfl⟩:=hc
        exact ⟨[v],vs,rfl,congrArg (· :: []) h.1,h.2,[_],rfl,h.1,trivial⟩
  | bool =>
    intro cs vs x rest h hc
    cases cs with
    | nil=>simp [Ty.ofCells] at hc
    | cons c cs =>
      cases vs with
      | nil=>exact h.elim
      | cons v vs =>
        cases c <;> simp [Ty.ofCells] at hc
        obtain ⟨rfl,rfl⟩:=hc
        exact ⟨[v],vs,rfl,congrArg (· :: []) h.1,h.2,[_],rfl,h.1,trivial⟩
  | str =>
    intro cs vs x rest h hc
    cases cs with
    | nil=>simp [Ty.ofCells] at hc
    | cons c cs =>
      cases vs with
      | nil=>exact h.elim
      | cons v vs =>
        cases c <;> simp [Ty.ofCells] at hc
        obtain ⟨rfl,rfl⟩:=hc
        exact ⟨[v],vs,rfl,congrArg (· :: []) h.1,h.2,[_],rfl,h.1,trivial⟩
  | adr =>
    intro cs vs x rest h hc
    cases cs with
    | nil=>simp [Ty.ofCells] at hc
    | cons c cs=>simp [Ty.ofCells] at hc
  | err =>
    intro cs vs x rest h hc
    cases cs with
    | nil=>simp [Ty.ofCells] at hc
    | cons c cs =>
      cases vs with
      | nil=>exact h.elim
      | cons v vs =>
        cases c <;> simp [Ty.ofCells] at hc
        obtain ⟨rfl,rfl⟩:=hc
        exact ⟨[v],vs,rfl,⟨v,rfl,h.1⟩,h.2,[_],rfl,h.1,trivial⟩
  | slice e ih =>
    intro cs vs x rest h hc
    cases cs with
    | nil=>simp [Ty.ofCells] at hc
    | cons c cs =>
      cases vs with
      | nil=>exact h.elim
      | cons v vs =>
        cases c with
        | sl fr t' l =>
          simp only [Ty.ofCells] at hc
          split at hc
          · next hq =>
            obtain ⟨hn,hc⟩:=cond_none' hc
            rename_i p _
            subst p
            cases hc
            refine ⟨[v],vs,rfl,Holds.weaken (fun k hk _=>?_) (t:=.slice t') h.1,h.2,[_],rfl,h.1,trivial⟩
            refine ⟨?_,hk.2⟩
            rcases hk.1 with h1 | ⟨rfl,h1⟩
            · exact Or.inl h1
            · cases need with
              | true=>cases hn
              | false=>exact Or.inr ⟨rfl,h1⟩
          · cases hc
        | _=>simp [Ty.ofCells] at hc
  | pair a b iha ihb =>
    intro cs vs x rest h hc
    simp only [Ty.ofCells] at hc
    split at hc
    · next x1 r1 h1 =>
      split at hc
      · next x2 r2 h2 =>
        cases hc
        obtain ⟨us,ws,rfl,p1,p2,pre1,q1,q2⟩:=iha cs vs x1 r1 h h1
        obtain ⟨us',ws',rfl,p3,p4,pre2,q3,q4⟩:=ihb r1 ws x2 rest p2 h2
        exact ⟨us++us',ws',by rw [List.append_assoc],⟨us,us',rfl,p1,p3⟩,p4,pre1++pre2,by rw [q1,q3,List.append_assoc],q2.append q4⟩
      · cases hc
    · cases hc
  | struct b ih =>
    intro cs vs x rest h hc
    exact ih cs vs x rest h hc
end
end Go.Proofs.YtnohkcklakipoaaGreatDoor.Ev
namespace Go.Proofs.YtnohkcklakipoaaGreatDoor.Ev
open Go Go.RowKit
set_option linter.unusedVariables false
set_option linter.unusedSimpArgs false
variable {ρ:Type}
section
variable {P:Program} {cx:Cx} {E:Env} {w0 w:World} {μ:Lie} {st:St} {a:Act} {o:Oper} {K:V→St→Option ρ} {r:ρ}
theorem Basic.bytes {t:TypeId} {n:Nat} {v:Value} (h:Basic P t n v):∃ i,P.info? t=some i∧i.bytes≤4096:=let ⟨i,h1,_,h2,_⟩:=h;⟨i,h1,h2⟩
theorem elemTy_sound (hcx:cx.ok P) {t:TypeId} {e:Ty} (h:elemTy cx t=some e):∃ u,P.underlying t=some (.slice u)∧TyOf P u e:=by
  unfold elemTy at h
  split at h
  · next e' he=>cases h;exact (hcx.ty t _ he).1
  · cases h
theorem drop_take_get {α:Type} (l:List α) (a n j:Nat) (h:j<n):((l.drop a).take n)[j]? = l[a+j]?:=by
  rw [List.getElem?_take_of_lt h,List.getElem?_drop]
theorem HoldsT.zero {w:World}:∀ t:Ty,HoldsT w t t.zero (zeroVals t) []
  | .int _ | .bool | .str=>⟨rfl,rfl⟩
  | .err=>⟨⟨_,rfl,rfl⟩,rfl⟩
  | .adr=>⟨⟨_,rfl,rfl⟩,rfl⟩
  | .slice e=>⟨_,rfl,Or.inl ⟨rfl,rfl,rfl⟩⟩
  | .pair a b=>⟨_,_,[],[],rfl,rfl,HoldsT.zero a,HoldsT.zero b⟩
  | .struct b=>HoldsT.zero (t:=b)
theorem zeros_part {e:Ty} (n m:Nat) (hm:n≤m) (vals:Array Value) (hv:∀ j,j<m*e.size→vals.toList[j]? = (zeroVals e)[j % e.size]?) (i:Nat) (hi:i<n):(vals.toList.drop (i*e.size)).take e.size=zeroVals e:=by
  have hpos:=e.size_pos
  have hz:=zeroVals_length e
  apply List.ext_getElem?
  intro j
  rcases Nat.lt_or_ge j e.size with g | g
  · have hj:i*e.size+j<m*e.size:=by
      have:(i+1)*e.size≤m*e.size:=Nat.mul_le_mul_right _ (by omega)
      rw [Nat.add_mul] at this;omega
    rw [drop_take_get _ _ _ _ g,hv _ hj,Nat.mul_comm,Nat.mul_add_mod,Nat.mod_eq_of_lt g]
  · rw [List.getElem?_eq_none (by simp;omega),List.getElem?_eq_none (by omega)]
theorem zeros_elems {S:Nat→Prop} {e:Ty} (n m:Nat) (hm:n≤m) (vals:Array Value) (hv:∀ j,j<m*e.size→vals.toList[j]? = (zeroVals e)[j % e.size]?):Elems w S e (List.replicate n e.zero) vals.toList:=by
  intro i hi
  rw [List.length_replicate] at hi
  rw [zeros_part n m hm vals hv i hi,List.getElem_replicate]
  exact Holds.zero e
theorem eff_makeSlice (hcx:cx.ok P) (hR:Rel E w0 μ st a w) {inl:Inl ρ} {path:List Nat} {t:TypeId} {n c:Operand} (ho:o.op = .makeSlice t n c) (h:evOp cx inl path o st K=some r):Eff P E w0 μ st a w o K r:=by
  unfold evOp at h;simp only [ho] at h
  split at h
  · next e k n' k' c' ht hn hc =>
    have hb:=(cond_none h).1
    replace h:=(cond_none h).2
    obtain ⟨h0,he,h1⟩:=of_decide_eq_true hb
    subst he
    obtain ⟨u,hu,hte⟩:=elemTy_sound hcx ht
    obtain ⟨i,hi,hby⟩:=hte.basic.bytes
    have en:=int_of hR hn
    have ec:=int_of hR hc
    obtain ⟨m,rfl⟩:∃ m:Nat,n'=m:=⟨n'.toNat,by omega⟩
    have hm:m<8589934592:=by unfold most at h1;omega
    have hw:IntKind.i64.wrap (m:Int)=m:=by rw [← wr_eq];simp only [wr,wrap64];omega
    have hbig:¬ ((i.bytes:Int)*(m:Int)>281474976710656):=by
      have:i.bytes*m≤4096*m:=Nat.mul_le_mul_right _ hby
      have h2:(i.bytes:Int)*(m:Int)=((i.bytes*m:Nat):Int):=by simp
      rw [h2];omega
    have hneg:¬ ((m:Int)<0):=by omega
    have hz:=zeroVals_length e
    have hpos:=e.size_pos
    let vals:Array Value:=(Array.range (m*e.size)).map fun j=>(zeroVals e).toArray[j % (zeroVals e).toArray.size]!
    have hvals:∀ j,j<m*e.size→vals.toList[j]? = (zeroVals e)[j % e.size]?:=by
      intro j hj
      have hlt:j % e.size<(zeroVals e).length:=by rw [hz];exact Nat.mod_lt _ (by omega)
      simp only [vals,Array.toList_map,Array.toList_range,List.getElem?_map,List.getElem?_range hj,Option.map_some,List.size_toArray,hz]
      rw [List.getElem?_eq_getElem hlt,getElem!_pos _ _ (by simpa [hz] using hlt)]
      simp
    have hsz:vals.size=m*e.size:=by simp [vals]
    have hrun:(Instr.makeSlice t (a.eval n) (a.eval c)).run P w = .ok (.slice (some ⟨w.heap.size,0,none⟩) m m) { w with heap:=w.heap.push (.cells vals u) }:=by
      by_cases hm0:m=0
      · have:vals=#[]:=by apply Array.eq_empty_of_size_eq_zero;rw [hsz,hm0,Nat.zero_mul]
        rw [this]
        subst hm0
        have hw0:IntKind.i64.wrap 0=0:=rfl
        simp [Instr.makeSlice,run_underlying hu,en,ec,asInt,asIntOf,run_typeInfo hi,hw0,run_sizeOf hte,newRow]
        rw [show Array.range 0=#[] from Array.eq_empty_of_size_eq_zero (by simp)]
        simp
      · have hne:¬ (m*e.size=0):=Nat.mul_ne_zero hm0 (by omega)
        simp [Instr.makeSlice,run_underlying hu,en,ec,asInt,asIntOf,run_typeInfo hi,hw,hbig,hneg,run_sizeOf hte,hm0,newRow,run_zeroValue hte,zeroV_cells hte,vals]
        exact fun hh=>absurd hh hne
    obtain ⟨m2,e2⟩:=snoc_row hR.mem (below_push w (.cells vals u)) (Nat.le_refl _) (heap_push_new w _) (unfrozen_zero _) (nf:=true) (t:=e) (l:=List.replicate m e.zero) (cap:=m) (by simp) hsz
      (zeros_elems m m (Nat.le_refl _) vals hvals) 0
    have ht2:=hR.tree.snoc hR.mem (below_push w (.cells vals u)) e2 fun g' t' l' q=>by
      cases q
      refine NestT.none rfl (heap_push_new w _) fun i hi=>?_
      rw [zeros_part m m (Nat.le_refl _) vals hvals i (by simpa using hi),List.getElem_replicate]
      exact HoldsT.zero e
    refine ⟨_,_,_,.slice (some ⟨w.heap.size,0,none⟩) m m,_,h,?_,hR.next m2 e2 ht2,rfl,goes_snoc (bl':=[]) e2,Or.inl (by unfold execOp;simp only [ho];simp [hrun])⟩
    refine ⟨⟨rfl,by simp⟩,fun g' own nf u' l hb=>?_⟩
    rw [getElem?_snoc_last] at hb
    cases hb
    exact ⟨Nat.le_refl _,fun _=>by rw [Lie.put_same];simp [RowVal]⟩
  · cases h
theorem ofCells_undef {need:Bool}:∀ (t:Ty) (r:List A),t.ofCells need (.undef :: r)=none
  | .int _,_ | .bool,_ | .str,_ | .err,_ | .adr,_ | .slice _,_=>rfl
  | .pair a b,r=>by simp only [Ty.ofCells,ofCells_undef a r]
  | .struct b,r=>by simp only [Ty.ofCells,ofCells_undef b r]
theorem ofV_sound {bl:List Blk} (hm:Mem E w0 w μ bl) {X:V} {v:Value} {t:Ty} {x:t.den} {need:Bool} {bs:List Nat} (hx:RepV E w μ bl X v) (hbs:∀ b,b∈rowsOf X.cells→b∈bs) (h:t.ofV need bl X=some x) :
    ValHolds w (E.X μ bl bs need) t x v:=by
  unfold Ty.ofV at h
  split at h
  · next c =>
    obtain ⟨ha,h⟩:=cond_none' h
    split at h
    · next y hy =>
      cases h
      have hr:RepA E w μ bl c v:=by
        cases c <;> first | exact hx | (exfalso;rw [show A.view bl .undef = .undef from rfl,ofCells_undef] at hy;cases hy)
      have hv:=view_rep hm hr (bs:=bs) (fun b g e=>hbs b (by subst e;simp [V.cells,rowsOf]))
      obtain ⟨us,ws,e1,e2,e3,_⟩:=ofCells_sound t [c.view bl] [v] x [] ⟨hv,trivial⟩ hy
      have hws:ws=[]:=by cases ws with | nil=>rfl | cons _ _=>exact e3.elim
      subst hws
      rw [List.append_nil] at e1
      subst e1
      unfold ValHolds
      rw [ha];exact e2
    · cases h
  · next cs =>
    obtain ⟨ha,h⟩:=cond_none h
    split at h
    · next y hy =>
      cases h
      obtain ⟨vs,rfl,hr⟩:=hx
      have hv:All2 (RepX E w μ bl bs) (cs.map (A.view bl)) vs:=by
        have key:∀ (cs:List A) (vs:List Value),RepAs E w μ bl cs vs→(∀ b,b∈rowsOf cs→b∈bs)→All2 (RepX E w μ bl bs) (cs.map (A.view bl)) vs:=by
          intro cs
          induction cs with
          | nil=>intro vs hr _;cases vs with | nil=>trivial | cons _ _=>exact hr.elim
          | cons c cs ih =>
            intro vs hr hb
            cases vs with
            | nil=>exact hr.elim
            | cons v vs =>
              refine ⟨view_rep hm hr.1 (fun b g e=>hb b (by subst e;simp [rowsOf])),ih vs hr.2 (fun b hbm=>hb b ?_)⟩
              cases c <;> simp [rowsOf] <;> first | exact hbm | exact Or.inr hbm
        exact key cs vs hr hbs
      obtain ⟨us,ws,e1,e2,e3,_⟩:=ofCells_sound t _ vs x [] hv hy
      have hws:ws=[]:=by cases ws with | nil=>rfl | cons _ _=>exact e3.elim
      subst hws
      rw [List.append_nil] at e1
      subst e1
      unfold ValHolds
      rw [ha];exact ⟨vs,rfl,e2⟩
    · cases h
  · cases h
theorem eff_bytes (hcx:cx.ok P) (hR:Rel E w0 μ st a w) {inl:Inl ρ} {path:List Nat} {c d:TypeId} {x:Operand} (ho:o.op = .convert c d x) {s:ByteArray} (hc:cx.ty c=some .str) (hd:elemTy cx d=some (.int .u8)) (hx:st.get x = .at (.str s))
    (h:K (.at (.os st.bl.length 0)) { st with bl:=st.bl++[.arr 0 true true (.int .u8) (bytesOf s)] }=some r):Eff P E w0 μ st a w o K r:=by
  obtain ⟨u,hu,hte⟩:=elemTy_sound hcx hd
  have ex:=str_of hR hx
  have hrun:=Lib.run_convert_string_bytes (P:=P) w c d u s (hcx.ty c _ hc).1 hu hte.1
  have hge:=grownCap_ge w s.size 0 u
  have hsd:s.data.size=s.size:=rfl
  have hb:Below w.heap.size w (Lib.bytesWorld w u s):=by
    refine ⟨?_,?_,?_,by rw [Lib.bytesWorld_size];omega,fun k hk=>Lib.bytesWorld_at_old w u s k hk⟩ <;> simp [Lib.bytesWorld,World.freeze,World.alloc,World.drew,-World.alloc_eq,-World.drew_eq]
  have hlen:(bytesOf s).length=s.size:=by simp [bytesOf]
  obtain ⟨m2,e2⟩:=snoc_row hR.mem hb (Nat.le_refl _) (Lib.bytesWorld_at_new w u s) (fun i hi h=>by omega) (nf:=true) (t:=.int .u8) (l:=bytesOf s) (cap:=grownCap w s.size 0 u) (by rw [hlen];exact hge)
    (by simp only [Lib.bytesCells,Array.size_append,Array.size_map,Array.size_replicate,hsd,Ty.size];omega)
    (fun i hi=>by
      have hi':i<s.data.toList.length:=by rw [hlen] at hi;simpa using hi
      have:((Lib.bytesCells w u s).toList.drop (i*(Ty.int IntKind.u8).size)).take (Ty.int IntKind.u8).size=[.int .u8 (bytesOf s)[i]]:=by
        apply List.ext_getElem?
        intro j
        cases j with
        | zero =>
          rw [drop_take_get _ _ _ _ (by simp [Ty.size])]
          simp only [Ty.size,Nat.mul_one,Nat.add_zero,Lib.bytesCells,Array.toList_append,Array.toList_map,List.getElem?_cons_zero]
          rw [List.getElem?_append_left (by simpa using hi')]
          rw [List.getElem?_map,List.getElem?_eq_getElem hi']
          simp [bytesOf]
        | succ j=>simp [Ty.size];omega
      rw [this];rfl) 0
  have hlast:=getElem?_snoc_last st.bl (Blk.arr 0 true true (.int .u8) (bytesOf s))
  have ht2:=hR.tree.snoc hR.mem hb e2 fun g' t' l' q=>by
    cases q
    have:=NestT.flat (t:=.int .u8) rfl (m2.blocks _ _ hlast)
    rw [Lie.put_same] at this
    exact this
  refine ⟨_,_,_,_,_,h,?_,hR.next m2 e2 ht2,rfl,goes_snoc (bl':=[]) e2,Or.inl (by unfold execOp;simp only [ho,ex];simp [hrun];rfl)⟩
  refine ⟨⟨rfl,by simp⟩,fun g' own nf u' l hb=>?_⟩
  rw [getElem?_snoc_last] at hb
  cases hb
  exact ⟨Nat.le_refl _,fun _=>by rw [Lie.put_same,hlen];simp [RowVal]⟩
theorem eff_slice_own (hcx:cx.ok P) (hR:Rel E w0 μ st a w) {t:TypeId} {x:Operand} {lo hi:Option Operand} (ho:o.op = .slice t x lo hi none) {b g:Nat} (hx:st.get x = .at (.os b g)) {st':St} (hf:st.freeze b=some st')
    (h:evSlice cx t (.at ((A.os b g).view st.bl)) lo hi st (fun v=>K v st')=some r):Eff P E w0 μ st a w o K r:=by
  have hr:=hR.get x
  rw [hx] at hr
  obtain ⟨r1,t1,g1,o1,f1,k1⟩:=St.freeze_sound hR hf
  have hv:=view_sound hR.mem (x:=.os b g) hr (bs:=[b]) (fun b' g' e=>by cases e;simp)
  cases hy:(A.os b g).view st.bl with
  | sl fr u l =>
    rw [hy] at hv h
    have hh:Holds w (E.D μ st'.bl fr) (.slice u) l [a.eval x]:=Holds.weaken (fun k hk _=>Env.X_D (bs:=[b]) hk o1 (by intro c hc k2 d hk2 hb;have e:=List.mem_singleton.mp hc;subst e;exact f1 k2 d hk2 hb)) (t:=.slice u) hv
    have hget:∀ y,st'.get y=st.get y:=fun y=>by cases y <;> simp [St.get,t1]
    have hlb:∀ o d,loadBound st' o d=loadBound st o d:=fun o d=>by unfold loadBound;cases o with | none=>rfl | some y=>simp only [hget]
    have h':evSlice cx t (.at (.sl fr u l)) lo hi st' (fun v=>K v st')=some r:=by
      rw [← h];unfold evSlice;simp only [hlb]
    obtain ⟨Y,v,h1,h2,h3⟩:=slice_sound (S:=fun _=>True) hcx r1 (Or.inr ⟨fr,u,l,rfl,hh⟩) h'
    exact ⟨Y,st',μ,v,w,h1,h2,r1,t1,g1,Or.inl (by unfold execOp;simp only [ho];simp [h3])⟩
  | _ =>
    rw [hy] at hv h
    rcases hv with e | ⟨_,e⟩
    · first | (cases e;simp [evSlice] at h) | cases e
    · exact absurd rfl (e b g)
theorem eff_shrink (hcx:cx.ok P) (hR:Rel E w0 μ st a w) {t:TypeId} {x y:Operand} (ho:o.op = .slice t x none (some y) none) {b g:Nat} (hx:st.get x = .at (.os b g))
    (h:evShrink cx t b g (some y) st K=some r):Eff P E w0 μ st a w o K r:=by
  unfold evShrink at h
  split at h
  case h_2=>cases h
  next g' nf u l n e hb hn he =>
  have hc:=(cond_none h).1
  replace h:=(cond_none h).2
  have hi:=of_decide_eq_true (cond_none h).1
  replace h:=(cond_none h).2
  simp only [Bool.and_eq_true,Bool.not_eq_true',beq_iff_eq] at hc
  obtain ⟨⟨⟨rfl,hlock⟩,hflat⟩,heq⟩:=hc
  obtain ⟨het⟩:∃ _:u=e,True:=by
    cases hh:Ty.eq? u e with
    | none=>rw [hh] at heq;cases heq
    | some u=>exact ⟨u.down,trivial⟩
  subst het
  obtain ⟨elem,hu,hte⟩:=elemTy_sound hcx he
  obtain ⟨m,rfl⟩:∃ m:Nat,n=m:=⟨n.toNat,by omega⟩
  have hml:m≤l.length:=by omega
  rw [Int.toNat_natCast] at h
  have hm1:mine st.bl b:=by unfold mine;rw [hb]
  have hr:=hR.get x
  rw [hx] at hr
  have hrow:=(hr.2 _ _ _ _ _ hb).2 rfl
  have hll:(l.take m).length=m:=by rw [List.length_take];omega
  obtain ⟨q,hq⟩:=loadBound_some hR hn
  have key:∃ v,(execOp a.eval o).run P w = .ok (.value v) w∧RowVal (μ b) m v∧v.oneCell'=true:=by
    rcases hR.mem.blocks b _ hb with ⟨q1,q2⟩ | ⟨k,cap,vals,ty,fz,q1,q2,q3,q4,q5,q6,q7⟩
    · subst q2
      rw [q1] at hrow
      have hrow:a.eval x = .slice none 0 0:=hrow.1
      have hm0:m=0:=by simpa using hml
      subst hm0
      have hs:(Instr.sliceBounds true 0 0 none (some (a.eval y)) none).run P w = .ok (0,0,0) w:=by
        simp [Instr.sliceBounds,Instr.sliceBound,asIntOf,hq]
      refine ⟨.slice none 0 0,?_,by rw [q1];exact ⟨rfl,rfl⟩,rfl⟩
      unfold execOp
      simp only [ho]
      refine runsTo_of ?_
      simp [hrow,Instr.sliceAt,run_underlying hu,Instr.slice,hs,run_sizeOf hte]
    · rw [q1] at hrow
      have hrow:a.eval x = .slice (some ⟨k,0,none⟩) l.length cap:=hrow
      have hs:(Instr.sliceBounds true l.length cap none (some (a.eval y)) none).run P w = .ok (0,m,cap) w:=by
        have:m≤cap:=by omega
        simp [Instr.sliceBounds,Instr.sliceBound,asIntOf,hq,this]
      refine ⟨.slice (some ⟨k,0,none⟩) m cap,?_,by rw [q1];rfl,rfl⟩
      unfold execOp
      simp only [ho]
      refine runsTo_of ?_
      simp [hrow,Instr.sliceAt,run_underlying hu,Instr.slice,hs,run_sizeOf hte,Addr.add]
  obtain ⟨v,hrun,hv,hv1⟩:=key
  have hme:=hR.mem.turn (w':=w) (blk':=.arr (g+1) true nf u (l.take m)) hb hm1 (μ b) rfl rfl rfl (Nat.le_refl _) (fun _ _ _=>rfl) (Or.inl rfl) (fun cs q=>by cases q)
    (fun g2 own nf2 u2 l2 q=>by cases q;exact ⟨g,true,nf,l,rfl,Nat.le_succ _,fun e=>by omega⟩) (fun ev=>by
      rcases hR.mem.blocks b _ hb with ⟨q1,q2⟩ | ⟨k,cap,vals,ty,fz,q1,q2,q3,q4,q5,q6,q7⟩
      · exact Or.inl ⟨by rw [Lie.put_same];exact q1,by rw [q2];simp⟩
      · refine Or.inr ⟨k,cap,vals,ty,fz,by rw [Lie.put_same];exact q1,q2,q3,q4,by rw [hll];omega,q6,fun p hp=>?_⟩
        rw [hll] at hp
        have:(l.take m)[p]=l[p]:=by simp
        rw [this]
        exact ((q7 p (by omega)).flat (S':=fun _=>False) hflat).mono fun _ hk _=>hk.elim)
  have htr:Trees E w (μ.put b (μ b)) (st.bl.set b (.arr (g+1) true nf u (l.take m))):=by
    refine hR.tree.turn hR.mem hm1 (fun _ _ _=>rfl) hme.2 fun g2 t2 l2 q=>?_
    cases q
    rcases hR.mem.blocks b _ hb with ⟨q1,q2⟩ | ⟨k,cap,vals,ty,fz,q1,q2,q3,q4,q5,q6,q7⟩
    · exact Or.inl ⟨by rw [q2];simp,rfl⟩
    · refine NestT.none q1 q3 fun p hp=>?_
      rw [hll] at hp
      have:(l.take m)[p]=l[p]:=by simp
      rw [this]
      exact ((q7 p (by omega)).flat (S':=fun _=>True) hflat).tree hflat
  refine ⟨.at (.os b (g+1)),_,μ.put b (μ b),v,w,h,?_,hR.next hme.1 hme.2 htr,rfl,goes_set hlock hme.2,Or.inl hrun⟩
  refine ⟨⟨hv1,?_⟩,fun g2 own nf2 u2 l2 hb2=>?_⟩
  · rw [List.length_set]
    rcases Nat.lt_or_ge b st.bl.length with q | q
    · exact q
    · rw [List.getElem?_eq_none q] at hb;cases hb
  · rw [getElem?_set_self hb] at hb2
    cases hb2
    exact ⟨Nat.le_refl _,fun _=>by rw [Lie.put_same,hll];exact hv⟩
end
end Go.Proofs.YtnohkcklakipoaaGreatDoor.Ev
namespace Go.Proofs.YtnohkcklakipoaaGreatDoor.Ev
open Go Go.RowKit
set_option linter.unusedVariables false
set_option linter.unusedSimpArgs false
variable {ρ:Type}
def rowSet (w:World) (g:Nat) (vals:List Value) (ty:TypeId) (fz:Nat × Nat):World:={ w with heap:=w.heap.setIfInBounds g (.cells vals.toArray ty fz) }
theorem heap_lt {w:World} {g:Nat} {o:Obj} (h:w.heap[g]? = some o):g<w.heap.size:=by
  rcases Nat.lt_or_ge g w.heap.size with q | q
  · exact q
  · rw [Array.getElem?_eq_none (by simpa using q)] at h;cases h
theorem rowSet_same {w:World} {g:Nat} {vals:List Value} {ty:TypeId} {fz:Nat × Nat} (h:g<w.heap.size):(rowSet w g vals ty fz).heap[g]? = some (.cells vals.toArray ty fz):=by
  simp [rowSet,Array.getElem?_setIfInBounds,h]
theorem rowSet_other {w:World} {g k:Nat} {vals:List Value} {ty:TypeId} {fz:Nat × Nat} (h:k≠g):(rowSet w g vals ty fz).heap[k]? = w.heap[k]?:=by
  simp [rowSet,Array.getElem?_setIfInBounds,Ne.symm h]
theorem rowSet_size {w:World} {g:Nat} {vals:List Value} {ty:TypeId} {fz:Nat × Nat}:(rowSet w g vals ty fz).heap.size=w.heap.size:=by
  simp [rowSet]
theorem rowSet_set {w:World} {g:Nat} {us vs:List Value} {ty:TypeId} {fz:Nat × Nat}:rowSet (rowSet w g us ty fz) g vs ty fz=rowSet w g vs ty fz:=by
  simp [rowSet]
theorem setCell_rowSet {w:World} {g off:Nat} {vals:Array Value} {ty:TypeId} {fz:Nat × Nat} (h:w.heap[g]? = some (.cells vals ty fz)) (v:Value):w.setCell ⟨g,off,none⟩ v=rowSet w g (vals.toList.set off v) ty fz:=by
  have hlt:=heap_lt h
  unfold World.setCell rowSet
  congr 1
  apply Array.ext_getElem?
  intro i
  rw [Array.getElem?_modify,Array.getElem?_setIfInBounds]
  by_cases e:g=i
  · subst e
    simp only [if_true,h,hlt,Option.map_some]
    congr 2
    simp
    rw [← Array.toList_setIfInBounds]
  · simp [e]
theorem rowSet_self {w:World} {g:Nat} {vals:Array Value} {ty:TypeId} {fz:Nat × Nat} (h:w.heap[g]? = some (.cells vals ty fz)):rowSet w g vals.toList ty fz=w:=by
  have hlt:=heap_lt h
  unfold rowSet
  have:w.heap.setIfInBounds g (.cells vals.toList.toArray ty fz)=w.heap:=by
    apply Array.ext_getElem?
    intro i
    rw [Array.getElem?_setIfInBounds]
    by_cases e:g=i
    · subst e;rw [if_pos rfl,if_pos hlt,h]
    · simp [e]
  rw [this]
theorem run_storeCells {P:Program} {g off:Nat} {ty:TypeId} {fz:Nat × Nat}:∀ (news:List Value) (i:Nat) (w:World) (vals:Array Value),w.heap[g]? = some (.cells vals ty fz)→unfrozen vals fz→(∀ u∈news,u.oneCell'=true) →
    off+i+news.length≤vals.size→(storeCells ⟨g,off,none⟩ news i).run P w = .ok () (rowSet w g (writeAt vals.toList (off+i) news) ty fz)
  | [],i,w,vals,h,_,_,_=>by simp [storeCells,writeAt,rowSet_self h]
  | u :: news,i,w,vals,h,hf,h1,hl=>by
    simp only [List.length_cons] at hl
    have hlt:off+i<vals.size:=by omega
    have hcell:w.cell? ⟨g,off+i,none⟩=some vals[off+i]:=by rw [cell_row h,Array.getElem?_toList,Array.getElem?_eq_getElem hlt]
    have hfz:w.frozen? ⟨g,off+i,none⟩=false:=by
      simp only [World.frozen?,h]
      have:=hf (off+i) hlt
      rw [← Bool.not_eq_true,Bool.and_eq_true,decide_eq_true_iff,decide_eq_true_iff]
      exact this
    have hset:=setCell_rowSet h (off:=off+i) u
    have h':(rowSet w g (vals.toList.set (off+i) u) ty fz).heap[g]? = some (.cells (vals.setIfInBounds (off+i) u) ty fz):=by
      rw [rowSet_same (heap_lt h)]
      congr 2
      rw [← Array.toList_setIfInBounds]
    have ih:=run_storeCells (P:=P) (off:=off) news (i+1) _ _ h' (fun j hj hh=>hf j (by simpa using hj) hh) (fun x hx=>h1 x (List.mem_cons_of_mem _ hx)) (by simp only [Array.size_setIfInBounds];omega)
    simp only [storeCells,Sem.run_bind,add_none]
    rw [run_store P w _ u .plain (h1 u (List.mem_cons_self ..))]
    simp only [hcell,hfz,Bool.false_eq_true,if_false,Result.andThen_ok,hset]
    rw [ih,rowSet_set,writeAt,Array.toList_setIfInBounds,Nat.add_assoc]
theorem writeAt_get_out {α:Type}:∀ (xs as:List α) (off i:Nat),i<off∨off+xs.length≤i→(writeAt as off xs)[i]? = as[i]?
  | [],_,_,_,_=>rfl
  | x :: xs,as,off,i,h=>by
    rw [writeAt,writeAt_get_out xs _ (off+1) i (by simp at h;omega)]
    rw [List.getElem?_set_ne (by simp at h;omega)]
theorem writeAt_get_in {α:Type}:∀ (xs as:List α) (off i:Nat),off+xs.length≤as.length→i<xs.length→(writeAt as off xs)[off+i]? = xs[i]?
  | [],_,_,_,_,h=>by simp at h
  | x :: xs,as,off,0,hl,_=>by
    rw [writeAt,writeAt_get_out xs _ (off+1) (off+0) (Or.inl (by omega))]
    simp only [List.length_cons] at hl
    rw [Nat.add_zero,List.getElem?_set_self (by omega)]
    rfl
  | x :: xs,as,off,i+1,hl,h=>by
    rw [writeAt,show off+(i+1)=off+1+i by omega,writeAt_get_in xs _ (off+1) i (by simp at hl ⊢;omega) (by simp at h;omega)]
    simp
section
variable {P:Program} {cx:Cx} {E:Env} {w0 w:World} {μ:Lie} {st:St} {a:Act} {o:Oper} {K:V→St→Option ρ} {r:ρ}
theorem lock_false {b:Nat} {c:Bool} (h:(c && !st.lock.contains b)=true):c=true∧st.lock.contains b=false:=by
  simp only [Bool.and_eq_true,Bool.not_eq_true'] at h;exact h
theorem store_var_core (hcx:cx.ok P) (hR:Rel E w0 μ st a w) {t:TypeId} {ad x:Operand} (ho:o.op = .store t ad x) {ty:Ty} (ht:cx.ty t=some ty) {v cs:List A} (hrv:RepAs E w μ st.bl v (a.eval x).cells.toList) (hlen:v.length=ty.size)
    {b off:Nat} (ha:st.get ad = .at (.ptr b off)) (hb:st.bl[b]? = some (.var cs)) (hle:off+v.length≤cs.length) (hl:st.lock.contains b=false)
    (h:K V.undef { st with bl:=st.bl.set b (.var (writeAt cs off v)) }=some r):Eff P E w0 μ st a w o K r:=by
  have hmine:mine st.bl b:=by unfold mine;rw [hb];trivial
  have hra:=hR.get ad
  rw [ha] at hra
  obtain ⟨k,c,hk,ev⟩:=hra.2 cs hb
  obtain ⟨k',c',vals,vty,fz,h1,h2,h3,h4,h5⟩:=hR.mem.blocks b _ hb
  rw [hk] at h1;cases h1
  have hvl:=hrv.length
  have hcl:=h5.length
  have hone:∀ u∈(a.eval x).cells.toList,u.oneCell'=true:=by
    intro u hu
    obtain ⟨i,hi⟩:=List.getElem?_of_mem hu
    have hlt:i<v.length:=by
      rw [hvl]
      rcases Nat.lt_or_ge i (a.eval x).cells.toList.length with q | q
      · exact q
      · rw [List.getElem?_eq_none q] at hi;cases hi
    obtain ⟨u',hu',hr⟩:=hrv.get (List.getElem?_eq_getElem hlt)
    rw [hi] at hu';cases hu'
    exact hr.one
  have hrun:=run_storeCells (P:=P) (off:=off) (a.eval x).cells.toList 0 w vals h3 h4 hone (by rw [← hvl];simp only [Array.length_toList] at hcl;omega)
  rw [Nat.add_zero] at hrun
  have hkl:=heap_lt h3
  have hmt:=hR.mem.turn (w':=rowSet w k (writeAt vals.toList off (a.eval x).cells.toList) vty fz) (blk':=.var (writeAt cs off v)) hb hmine (μ b) rfl rfl rfl (by rw [rowSet_size];exact Nat.le_refl _)
    (fun j hj hne=>rowSet_other fun e=>hne c (e ▸ hk)) (Or.inl rfl) (fun cs' e=>⟨⟨cs,rfl⟩,rfl⟩) (fun _ _ _ _ _ e=>by cases e)
    (fun ev'=>⟨k,c,(writeAt vals.toList off (a.eval x).cells.toList).toArray,vty,fz,by rw [Lie.put_same];exact hk,h2,rowSet_same hkl,
      (fun i hi hh=>h4 i (by simpa [writeAt_length] using hi) hh),by
        have hw:RepAs E w μ st.bl (writeAt cs off v) (writeAt vals.toList off (a.eval x).cells.toList):=h5.writeAt off hrv
        exact ev'.reps hw⟩)
  rw [Lie.put_eq rfl] at hmt
  have ht2:=hR.tree.turn (m':=μ b) hR.mem hmine (w':=rowSet w k (writeAt vals.toList off (a.eval x).cells.toList) vty fz) (fun j hj hne=>rowSet_other fun e=>hne c (e ▸ hk)) (by rw [Lie.put_eq rfl];exact hmt.2) (fun _ _ _ e=>by cases e)
  rw [Lie.put_eq rfl] at ht2
  refine ⟨_,_,_,undef,_,h,trivial,hR.next hmt.1 hmt.2 ht2,rfl,goes_set hl hmt.2,Or.inr ⟨?_,rfl⟩⟩
  unfold execOp
  simp only [ho]
  have hsz:(a.eval x).cells.size=ty.size:=by rw [← hlen,hvl,Array.length_toList]
  simp [Instr.storeAt,ev,Instr.sureAddr,storeVar,run_sizeOf (hcx.ty t _ ht),hsz,hrun]
theorem eff_store_vals (hcx:cx.ok P) (hR:Rel E w0 μ st a w) {t:TypeId} {ad x:Operand} (ho:o.op = .store t ad x) {ty:Ty} (ht:cx.ty t=some ty) {v cs:List A} (hrv:RepAs E w μ st.bl v (a.eval x).cells.toList) (hlen:v.length=ty.size)
    {b off:Nat} (ha:st.get ad = .at (.ptr b off)) (hb:st.bl[b]? = some (.var cs)) (hle:off+v.length≤cs.length) (hl:st.lock.contains b=false)
    (h:K V.undef { st with bl:=st.bl.set b (.var (writeAt cs off (openRows v st.bl.length).1))++(openRows v st.bl.length).2 }=some r):Eff P E w0 μ st a w o K r:=by
  obtain ⟨μ1,m1,e1,r1,ht1⟩:=openRows_sound _ _ st.bl μ hR.mem hR.tree hrv
  have hlt:b<st.bl.length:=by
    rcases Nat.lt_or_ge b st.bl.length with q | q
    · exact q
    · rw [List.getElem?_eq_none q] at hb;cases hb
  have hR1:Rel E w0 μ1 { st with bl:=st.bl++(openRows v st.bl.length).2 } a w:=hR.next m1 e1 ht1
  have hll:=openRows_length v st.bl.length
  obtain ⟨X,st',μ',u,w',k1,k2,k3,k4,k5,k6⟩:=store_var_core (K:=K) (r:=r) hcx hR1 ho ht r1 (by rw [hll,hlen]) (b:=b) (off:=off) (cs:=cs) ha
    (by show (st.bl++(openRows v st.bl.length).2)[b]? = _;rw [List.getElem?_append_left hlt,hb]) (by rw [hll];exact hle) hl
    (by rw [← h];show K V.undef { st with bl:=(st.bl++(openRows v st.bl.length).2).set b _ }=_;rw [List.set_append_left _ _ hlt])
  exact ⟨X,st',μ',u,w',k1,k2,k3,k4,(goes_snoc (bl':=[]) e1).trans k5,k6⟩
theorem eff_store_var (hcx:cx.ok P) (hR:Rel E w0 μ st a w) {t:TypeId} {ad x:Operand} (ho:o.op = .store t ad x) {ty:Ty} (ht:cx.ty t=some ty) {v cs:List A} (hv:(st.get x).full=some v) (hlen:v.length=ty.size)
    {b off:Nat} (ha:st.get ad = .at (.ptr b off)) (hb:st.bl[b]? = some (.var cs)) (hle:off+v.length≤cs.length) (hl:st.lock.contains b=false)
    (h:K V.undef { st with bl:=st.bl.set b (.var (writeAt cs off (openRows v st.bl.length).1))++(openRows v st.bl.length).2 }=some r):Eff P E w0 μ st a w o K r :=
  eff_store_vals hcx hR ho ht (full_sound (hR.get x) hv) hlen ha hb hle hl h
theorem rowsOf_mem:∀ (cs:List A) (x:A),x∈cs→∀ b g,x = .os b g→b∈rowsOf cs
  | [],_,h,_,_,_=>by simp at h
  | c :: cs,x,h,b,g,e=>by
    rcases List.mem_cons.mp h with rfl | h
    · subst e;simp [rowsOf]
    · have:=rowsOf_mem cs x h b g e
      cases c <;> simp [rowsOf] <;> first | exact this | exact Or.inr this
theorem newAlone_get {bl:List Blk}:∀ (cs:List A),newAlone bl cs=true→∀ c∈cs,(match c.view bl with | .sl fr _ _=>fr | .err _=>false | _=>true)=true
  | [],_,c,h=>by simp at h
  | x :: cs,hn,c,h=>by
    simp only [newAlone,Bool.and_eq_true] at hn
    rcases List.mem_cons.mp h with rfl | h
    · exact hn.1
    · exact newAlone_get cs hn.2 c h
theorem ofCells_fresh {bl:List Blk} {bs:List Nat} {need:Bool}:∀ (t:Ty) (cs:List A) (vs:List Value) (x:t.den) (rest:List A),All2 (RepX E w μ bl bs) cs vs→t.ofCells false cs=some (x,rest) →
    (∀ c∈cs,∀ fr u l,c = .sl fr u l→need=true→fr=true)→t.ofCells need cs=some (x,rest):=by
  intro t
  induction t with
  | slice e ih =>
    intro cs vs x rest h hc hn
    cases cs with
    | nil=>simp [Ty.ofCells] at hc
    | cons c cs =>
      cases c with
      | sl fr t' l =>
        simp only [Ty.ofCells] at hc ⊢
        split at hc
        · next p hq =>
          have hc:some (p ▸ l,cs)=some (x,rest):=hc
          have:(need && !fr)=false:=by
            cases need with
            | false=>rfl
            | true=>rw [hn _ (List.mem_cons_self ..) fr t' l rfl rfl];rfl
          rw [this];exact hc
        · cases hc
      | _=>simp [Ty.ofCells] at hc
  | pair a b iha ihb =>
    intro cs vs x rest h hc hn
    simp only [Ty.ofCells] at hc ⊢
    split at hc
    · next x1 r1 h1 =>
      split at hc
      · next x2 r2 h2 =>
        obtain ⟨us,ws,e1,_,p2,pre,q1,_⟩:=ofCells_sound a cs vs x1 r1 h h1
        rw [iha cs vs x1 r1 h h1 hn]
        have e2:=ihb r1 ws x2 r2 p2 h2 (fun c hcm=>hn c (by rw [q1];exact List.mem_append_right _ hcm))
        simp only [e2]
        exact hc
      · cases hc
    · cases hc
  | struct b ih =>
    intro cs vs x rest h hc hn
    exact ih cs vs x rest h hc hn
  | int k =>
    intro cs vs x rest h hc hn
    cases cs with
    | nil=>simp [Ty.ofCells] at hc
    | cons c cs=>cases c <;> simp [Ty.ofCells] at hc ⊢ <;> exact hc
  | bool =>
    intro cs vs x rest h hc hn
    cases cs with
    | nil=>simp [Ty.ofCells] at hc
    | cons c cs=>cases c <;> simp [Ty.ofCells] at hc ⊢ <;> exact hc
  | str =>
    intro cs vs x rest h hc hn
    cases cs with
    | nil=>simp [Ty.ofCells] at hc
    | cons c cs=>cases c <;> simp [Ty.ofCells] at hc ⊢ <;> exact hc
  | adr =>
    intro cs vs x rest h hc hn
    cases cs with
    | nil=>simp [Ty.ofCells] at hc
    | cons c cs=>simp [Ty.ofCells] at hc
  | err =>
    intro cs vs x rest h hc hn
    cases cs with
    | nil=>simp [Ty.ofCells] at hc
    | cons c cs=>cases c <;> simp [Ty.ofCells] at hc ⊢ <;> exact hc
theorem mem_writeAt {α:Type}:∀ (xs as:List α) (off:Nat) (x:α),x∈writeAt as off xs→x∈as∨x∈xs
  | [],_,_,_,h=>Or.inl h
  | y :: xs,as,off,x,h=>by
    rcases mem_writeAt xs _ _ x h with h | h
    · rcases List.mem_or_eq_of_mem_set h with h | rfl
      · exact Or.inl h
      · exact Or.inr (List.mem_cons_self ..)
    · exact Or.inr (List.mem_cons_of_mem _ h)
theorem cells_kind (fr:Bool):∀ (t:Ty) (x:t.den),∀ c∈t.cells fr x,(∀ b g,c ≠ .os b g)∧(∀ f u l,c = .sl f u l→f=fr∧t.flat=false)
  | .int k,n,c,h=>by simp [Ty.cells] at h;subst h;simp
  | .bool,b,c,h=>by simp [Ty.cells] at h;subst h;simp
  | .str,s,c,h=>by simp [Ty.cells] at h;subst h;simp
  | .err,b,c,h=>by simp [Ty.cells] at h;subst h;simp
  | .adr,b,c,h=>by simp [Ty.cells] at h;subst h;simp
  | .slice e,l,c,h=>by
    simp [Ty.cells] at h;subst h
    exact ⟨by simp,fun f u l' e=>by cases e;exact ⟨rfl,rfl⟩⟩
  | .pair a b,x,c,h=>by
    simp only [Ty.cells,List.mem_append] at h
    rcases h with h | h
    · obtain ⟨h1,h2⟩:=cells_kind fr a x.1 c h
      exact ⟨h1,fun f u l e=>⟨(h2 f u l e).1,by simp [Ty.flat,(h2 f u l e).2]⟩⟩
    · obtain ⟨h1,h2⟩:=cells_kind fr b x.2 c h
      exact ⟨h1,fun f u l e=>⟨(h2 f u l e).1,by simp [Ty.flat,(h2 f u l e).2]⟩⟩
  | .struct b,x,c,h=>cells_kind fr b x c h
theorem cells_kind2 (fr:Bool):∀ (t:Ty) (x:t.den),∀ c∈t.cells fr x,(∀ t,c ≠ .nil t)∧(∀ u l,c ≠ .old u l)
  | .int k,n,c,h=>by simp [Ty.cells] at h;subst h;simp
  | .bool,b,c,h=>by simp [Ty.cells] at h;subst h;simp
  | .str,s,c,h=>by simp [Ty.cells] at h;subst h;simp
  | .err,b,c,h=>by simp [Ty.cells] at h;subst h;simp
  | .adr,b,c,h=>by simp [Ty.cells] at h;subst h;simp
  | .slice e,l,c,h=>by simp [Ty.cells] at h;subst h;simp
  | .pair a b,x,c,h=>by
    simp only [Ty.cells,List.mem_append] at h
    rcases h with h | h
    · exact cells_kind2 fr a x.1 c h
    · exact cells_kind2 fr b x.2 c h
  | .struct b,x,c,h=>cells_kind2 fr b x c h
theorem Env.D_less {bl:List Blk} {f f':Bool} (h:f'=true→f=true) {k:Nat} (hd:E.D μ bl f k):E.D μ bl f' k:=by
  refine ⟨?_,hd.2⟩
  rcases hd.1 with h1 | ⟨rfl,h1⟩
  · exact Or.inl h1
  · cases f' with
    | true=>exact absurd (h rfl) (by simp)
    | false=>exact Or.inr ⟨rfl,h1⟩
theorem view_reps {bl:List Blk} (hm:Mem E w0 w μ bl) {bs:List Nat}:∀ (cs:List A) (vs:List Value),RepAs E w μ bl cs vs→(∀ c∈cs,∀ b g,c = .os b g→b∈bs)→All2 (RepX E w μ bl bs) (cs.map (A.view bl)) vs
  | [],[],_,_=>trivial
  | c :: cs,v :: vs,h,hb=>⟨view_rep hm h.1 (hb c (List.mem_cons_self ..)),view_reps hm cs vs h.2 fun c hc=>hb c (List.mem_cons_of_mem _ hc)⟩
  | [],_ :: _,h,_=>h.elim
  | _ :: _,[],h,_=>h.elim
theorem putIn_sound {bl:List Blk} (hm:Mem E w0 w μ bl) {t:Ty} {cs:List A} {vs:List Value} {y:t.den} {bs:List Nat} {need:Bool} (hr:RepAs E w μ bl cs vs) (hb:∀ c∈cs,∀ b g,c = .os b g→b∈bs)
    (hn:∀ c∈cs,∀ fr u l,c.view bl = .sl fr u l→need=true→fr=true) (h:putIn t bl cs=some y):Holds w (E.X μ bl bs need) t y vs:=by
  unfold putIn at h
  split at h
  · next x hx =>
    cases h
    have hv:=view_reps hm cs vs hr hb
    have h2:=ofCells_fresh (need:=need) t _ vs y [] hv hx (fun c hc fr u l e hne=>by
      obtain ⟨c',hc',rfl⟩:=List.mem_map.mp hc
      exact hn c' hc' fr u l e hne)
    obtain ⟨us,ws,e1,e2,e3,_⟩:=ofCells_sound t _ vs y [] hv h2
    have hws:ws=[]:=by cases ws with | nil=>rfl | cons _ _=>exact e3.elim
    subst hws
    rw [List.append_nil] at e1
    subst e1;exact e2
  · cases h
theorem part_writeAt {α:Type} {vals news:List α} {p n off:Nat} (h1:off+news.length≤n) (h2:p+n≤vals.length):((writeAt vals (p+off) news).drop p).take n=writeAt ((vals.drop p).take n) off news:=by
  apply List.ext_getElem?
  intro j
  rcases Nat.lt_or_ge j n with g | g
  · rw [drop_take_get _ _ _ _ g]
    by_cases hj:j<off∨off+news.length≤j
    · rw [writeAt_get_out _ _ _ _ hj,writeAt_get_out _ _ _ _ (by omega),drop_take_get _ _ _ _ g]
    · obtain ⟨d,rfl⟩:∃ d,j=off+d:=⟨j-off,by omega⟩
      rw [← Nat.add_assoc,writeAt_get_in _ _ _ _ (by omega) (by omega),writeAt_get_in _ _ _ _ (by simp;omega) (by omega)]
  · rw [List.getElem?_eq_none (by simp;omega),List.getElem?_eq_none (by rw [writeAt_length];simp;omega)]
theorem part_other {α:Type} {vals news:List α} {p q n off:Nat} (h1:off+news.length≤n) (h:p+n≤q∨q+n≤p):((writeAt vals (q+off) news).drop p).take n=(vals.drop p).take n:=by
  apply List.ext_getElem?
  intro j
  rcases Nat.lt_or_ge j n with g | g
  · rw [drop_take_get _ _ _ _ g,drop_take_get _ _ _ _ g,writeAt_get_out _ _ _ _ (by omega)]
  · rw [List.getElem?_eq_none (by simp;omega),List.getElem?_eq_none (by simp;omega)]
theorem ones_of {bl:List Blk} {cs:List A} {vs:List Value} (h:RepAs E w μ bl cs vs):∀ u∈vs,u.oneCell'=true:=by
  intro u hu
  obtain ⟨i,hi⟩:=List.getElem?_of_mem hu
  have hlt:i<cs.length:=by
    rw [h.length]
    rcases Nat.lt_or_ge i vs.length with q | q
    · exact q
    · rw [List.getElem?_eq_none q] at hi;cases hi
  obtain ⟨u',hu',hr⟩:=h.get (List.getElem?_eq_getElem hlt)
  rw [hi] at hu';cases hu'
  exact hr.one
def CellT (w:World):A→Value→List Nat→Prop
  | .sl _ e l,v,F=>HoldsT w (.slice e) l [v] F
  | .int k n,v,F=>v = .int k n∧F=[]
  | .bool b,v,F=>v = .bool b∧F=[]
  | .str s,v,F=>v = .string s∧F=[]
  | .err b,v,F=>(match b with | true=>∃ t u,v = .iface t u | false=>v = .nilIface)∧F=[]
  | .undef,v,F=>v.oneCell'=true∧F=[]
  | _,_,_=>False
abbrev CellsT (w:World) (cs:List A) (ps:List (Value × List Nat)):Prop:=All2 (fun c p=>CellT w c p.1 p.2) cs ps
theorem HoldsT.toCells {w:World} {fr:Bool}:∀ {t:Ty} {x:t.den} {vs:List Value} {F:List Nat},HoldsT w t x vs F→∃ ps,vs=ps.map (·.1)∧F=(ps.map (·.2)).flatten∧CellsT w (t.cells fr x) ps
  | .int k,n,vs,F,h=>by obtain ⟨rfl,rfl⟩:=h;exact ⟨[(_,[])],rfl,rfl,⟨rfl,rfl⟩,trivial⟩
  | .bool,b,vs,F,h=>by obtain ⟨rfl,rfl⟩:=h;exact ⟨[(_,[])],rfl,rfl,⟨rfl,rfl⟩,trivial⟩
  | .str,s,vs,F,h=>by obtain ⟨rfl,rfl⟩:=h;exact ⟨[(_,[])],rfl,rfl,⟨rfl,rfl⟩,trivial⟩
  | .err,b,vs,F,h=>by obtain ⟨⟨v,rfl,hb⟩,rfl⟩:=h;exact ⟨[(v,[])],rfl,rfl,⟨hb,rfl⟩,trivial⟩
  | .adr,b,vs,F,h=>by obtain ⟨⟨v,rfl,hb⟩,rfl⟩:=h;exact ⟨[(v,[])],rfl,rfl,⟨hb,rfl⟩,trivial⟩
  | .slice e,l,vs,F,h=>by
    have h':=h
    simp only [HoldsT] at h'
    obtain ⟨v,rfl,_⟩:=h'
    exact ⟨[(v,F)],rfl,by simp,h,trivial⟩
  | .pair a b,x,vs,F,h=>by
    simp only [HoldsT] at h
    obtain ⟨us,ws,F1,F2,rfl,rfl,h1,h2⟩:=h
    obtain ⟨p1,rfl,rfl,c1⟩:=h1.toCells (fr:=fr)
    obtain ⟨p2,rfl,rfl,c2⟩:=h2.toCells (fr:=fr)
    exact ⟨p1++p2,by simp,by simp,All2.append c1 c2⟩
  | .struct b,x,vs,F,h=>by simp only [HoldsT] at h;exact HoldsT.toCells (t:=b) h
theorem HoldsT.ofCells {w:World} {need:Bool}:∀ (t:Ty) (cs:List A) (ps:List (Value × List Nat)) (x:t.den) (rest:List A),CellsT w cs ps→t.ofCells need cs=some (x,rest) →
    ∃ p1 p2,ps=p1++p2∧HoldsT w t x (p1.map (·.1)) (p1.map (·.2)).flatten∧CellsT w rest p2
  | .int k,cs,ps,x,rest,hc,h=>by
    cases cs with
    | nil=>simp [Ty.ofCells] at h
    | cons c cs=>cases ps with
      | nil=>exact hc.elim
      | cons p ps =>
        cases c <;> simp [Ty.ofCells] at h
        obtain ⟨rfl,rfl,rfl⟩:=h
        obtain ⟨h1,h2⟩:=hc.1
        exact ⟨[p],ps,rfl,⟨by simp [h1],by simp [h2]⟩,hc.2⟩
  | .bool,cs,ps,x,rest,hc,h=>by
    cases cs with
    | nil=>simp [Ty.ofCells] at h
    | cons c cs=>cases ps with
      | nil=>exact hc.elim
      | cons p ps =>
        cases c <;> simp [Ty.ofCells] at h
        obtain ⟨rfl,rfl⟩:=h
        obtain ⟨h1,h2⟩:=hc.1
        exact ⟨[p],ps,rfl,⟨by simp [h1],by simp [h2]⟩,hc.2⟩
  | .str,cs,ps,x,rest,hc,h=>by
    cases cs with
    | nil=>simp [Ty.ofCells] at h
    | cons c cs=>cases ps with
      | nil=>exact hc.elim
      | cons p ps =>
        cases c <;> simp [Ty.ofCells] at h
        obtain ⟨rfl,rfl⟩:=h
        obtain ⟨h1,h2⟩:=hc.1
        exact ⟨[p],ps,rfl,⟨by simp [h1],by simp [h2]⟩,hc.2⟩
  | .adr,cs,ps,x,rest,hc,h=>by cases cs <;> simp [Ty.ofCells] at h
  | .err,cs,ps,x,rest,hc,h=>by
    cases cs with
    | nil=>simp [Ty.ofCells] at h
    | cons c cs=>cases ps with
      | nil=>exact hc.elim
      | cons p ps =>
        cases c <;> simp [Ty.ofCells] at h
        obtain ⟨rfl,rfl⟩:=h
        obtain ⟨h1,h2⟩:=hc.1
        exact ⟨[p],ps,rfl,⟨⟨p.1,rfl,h1⟩,by simp [h2]⟩,hc.2⟩
  | .slice e,cs,ps,x,rest,hc,h=>by
    cases cs with
    | nil=>simp [Ty.ofCells] at h
    | cons c cs=>cases ps with
      | nil=>exact hc.elim
      | cons p ps =>
        cases c with
        | sl fr e' l =>
          unfold Ty.ofCells at h
          split at h
          · next he _ =>
            subst he
            replace h:=(cond_none' h).2
            cases h
            refine ⟨[p],ps,rfl,?_,hc.2⟩
            have h1:HoldsT w (.slice e') l [p.1] p.2:=hc.1
            simpa using h1
          · cases h
        | _=>unfold Ty.ofCells at h;cases h
  | .pair a b,cs,ps,x,rest,hc,h=>by
    unfold Ty.ofCells at h
    split at h
    case h_2=>cases h
    next y r1 h1 =>
    split at h
    case h_2=>cases h
    next z r2 h2 =>
    cases h
    obtain ⟨p1,p2,rfl,t1,c2⟩:=HoldsT.ofCells a cs ps y r1 hc h1
    obtain ⟨p3,p4,rfl,t2,c3⟩:=HoldsT.ofCells b r1 p2 z _ c2 h2
    refine ⟨p1++p3,p4,by simp,?_,c3⟩
    exact ⟨_,_,_,_,by simp,by simp,t1,t2⟩
  | .struct b,cs,ps,x,rest,hc,h=>by unfold Ty.ofCells at h;exact HoldsT.ofCells b cs ps x rest hc h
theorem map_writeAt {α β:Type} (f:α→β):∀ (xs as:List α) (off:Nat),(writeAt as off xs).map f=writeAt (as.map f) off (xs.map f)
  | [],_,_=>rfl
  | x :: xs,as,off=>by rw [writeAt,map_writeAt f xs,List.map_cons,writeAt,List.map_set]
theorem writeAt_eq {α:Type} {as xs:List α} {off:Nat} (h:off+xs.length≤as.length):writeAt as off xs=as.take off++(xs++as.drop (off+xs.length)):=by
  apply List.ext_getElem?
  intro i
  rcases Nat.lt_or_ge i off with q | q
  · rw [writeAt_get_out _ _ _ _ (Or.inl q),List.getElem?_append_left (by rw [List.length_take];omega),List.getElem?_take_of_lt q]
  · have hlt:(as.take off).length=off:=by rw [List.length_take];omega
    rw [List.getElem?_append_right (by omega),hlt]
    rcases Nat.lt_or_ge i (off+xs.length) with q2 | q2
    · obtain ⟨d,rfl⟩:∃ d,i=off+d:=⟨i-off,by omega⟩
      rw [writeAt_get_in _ _ _ _ h (by omega),Nat.add_sub_cancel_left,List.getElem?_append_left (by omega)]
    · rw [writeAt_get_out _ _ _ _ (Or.inr q2),List.getElem?_append_right (by omega),List.getElem?_drop]
      congr 1;omega
theorem moves_new {bl:List Blk}:∀ {cs:List A} {bs:List Nat},movable bl cs=some bs→newAlone bl cs=true
  | [],bs,h=>rfl
  | c :: cs,bs,h=>by
    cases c with
    | os b g =>
      unfold movable at h
      split at h
      · next g' t l bs' hb hbs =>
        have hg:=(cond_none h).1
        unfold newAlone
        simp only [A.view,hb,hg,cond_true,moves_new hbs,Bool.and_true,Bool.true_or]
      · cases h
    | sl fr t l=>unfold movable at h;cases h
    | old t l=>unfold movable at h;cases h
    | nil t=>unfold movable at h;unfold newAlone;simp only [A.view,moves_new h,Bool.and_true]
    | int k n=>unfold movable at h;unfold newAlone;simp only [A.view,moves_new h,Bool.and_true]
    | bool b=>unfold movable at h;unfold newAlone;simp only [A.view,moves_new h,Bool.and_true]
    | str s=>unfold movable at h;unfold newAlone;simp only [A.view,moves_new h,Bool.and_true]
    | undef=>unfold movable at h;cases h
    | err b=>unfold movable at h;cases h
    | ptr b off=>unfold movable at h;cases h
    | ep b g i off=>unfold movable at h;cases h
    | pp fr t x off=>unfold movable at h;cases h
    | fn f caps=>unfold movable at h;cases h
theorem movable_rows {bl:List Blk}:∀ {cs:List A} {bs:List Nat},movable bl cs=some bs→rowsOf cs=bs
  | [],bs,h=>by unfold movable at h;cases h;rfl
  | c :: cs,bs,h=>by
    cases c with
    | os b g =>
      unfold movable at h
      split at h
      · next g' t l bs' hb hbs =>
        replace h:=(cond_none h).2
        cases h
        show b :: rowsOf cs=_
        rw [movable_rows (cs:=cs) hbs]
      · cases h
    | sl fr t l=>unfold movable at h;cases h
    | old t l=>unfold movable at h;cases h
    | nil t=>unfold movable at h;exact (movable_rows (cs:=cs) h:rowsOf cs=bs)
    | int k n=>unfold movable at h;exact (movable_rows (cs:=cs) h:rowsOf cs=bs)
    | bool b=>unfold movable at h;exact (movable_rows (cs:=cs) h:rowsOf cs=bs)
    | str s=>unfold movable at h;exact (movable_rows (cs:=cs) h:rowsOf cs=bs)
    | undef=>unfold movable at h;cases h
    | err b=>unfold movable at h;cases h
    | ptr b off=>unfold movable at h;cases h
    | ep b g i off=>unfold movable at h;cases h
    | pp fr t x off=>unfold movable at h;cases h
    | fn f caps=>unfold movable at h;cases h
def Fof (μ:Lie) (τ:Nat→List Nat) (b:Nat):List Nat :=
  match μ b with
  | some (k,_)=>k :: τ b
  | none=>[]
theorem row_tree {τ:Nat→List Nat} {bl:List Blk} (hm:Mem E w0 w μ bl) (ht:TreeOk E w μ bl τ) {b g:Nat} {t:Ty} {l:List t.den} (hb:bl[b]? = some (.arr g true true t l)) {v:Value} (hv:RowVal (μ b) l.length v):HoldsT w (.slice t) l [v] (Fof μ τ b):=by
  simp only [HoldsT]
  refine ⟨v,rfl,?_⟩
  rcases hm.blocks b _ hb with ⟨h1,h2⟩ | ⟨k,cap,vals,ty,fz,h1,h2,h3,h4,h5,h6,h7⟩
  · subst h2
    rw [h1] at hv
    obtain ⟨rfl,_⟩:=hv
    refine Or.inl ⟨rfl,?_,rfl⟩
    unfold Fof;rw [h1]
  · rw [h1] at hv
    have hv:v = .slice (some ⟨k,0,none⟩) l.length cap:=hv
    have hF:Fof μ τ b=k :: τ b:=by unfold Fof;rw [h1]
    rw [hF]
    refine Or.inr ?_
    rcases ht.nest b g t l hb with ⟨q1,q2⟩ | ⟨k',cap',cells,ty',fz',Fs,q1,q2,q3,q4,q5⟩
    · subst q1
      exact ⟨k,cap,vals,ty,fz,[],hv,h3,h4,h5,h6,by rw [q2];rfl,rfl,fun i hi=>absurd hi (Nat.not_lt_zero _)⟩
    · rw [h1] at q1;cases q1
      rw [h3] at q2;cases q2
      exact ⟨k,cap,vals,ty,fz,Fs,hv,h3,h4,h5,h6,by rw [q3],q4,q5⟩
theorem moved_cells {τ:Nat→List Nat} {bl:List Blk} (hm:Mem E w0 w μ bl) (ht:TreeOk E w μ bl τ):∀ {cs:List A} {us:List Value} {bs:List Nat},RepAs E w μ bl cs us→movable bl cs=some bs →
    (∃ ps,us=ps.map (·.1)∧(ps.map (·.2)).flatten=bs.flatMap (Fof μ τ)∧CellsT w (cs.map (A.view bl)) ps)∧∀ b∈bs,Tree bl b
  | [],[],bs,_,h=>by unfold movable at h;cases h;exact ⟨⟨[],rfl,rfl,trivial⟩,fun b hb=>by cases hb⟩
  | [],_ :: _,_,hr,_=>hr.elim
  | _ :: _,[],_,hr,_=>hr.elim
  | c :: cs,u :: us,bs,hr,h=>by
    have plain:∀ (hc:movable bl cs=some bs),CellT w (c.view bl) u []→(∃ ps,u :: us=ps.map (·.1)∧(ps.map (·.2)).flatten=bs.flatMap (Fof μ τ)∧CellsT w ((c :: cs).map (A.view bl)) ps)∧∀ b∈bs,Tree bl b:=by
      intro hc hu
      obtain ⟨⟨ps,e1,e2,e3⟩,e4⟩:=moved_cells hm ht hr.2 hc
      exact ⟨⟨(u,[]) :: ps,by rw [List.map_cons,e1],by rw [List.map_cons,List.flatten_cons,e2];rfl,hu,e3⟩,e4⟩
    cases c with
    | os b g =>
      unfold movable at h
      split at h
      · next g' t l bs' hb hbs =>
        have hg:=(cond_none h).1
        replace h:=(cond_none h).2
        cases h
        have hg':g=g':=by simpa using hg
        subst hg'
        obtain ⟨⟨ps,e1,e2,e3⟩,e4⟩:=moved_cells hm ht hr.2 hbs
        have hv:=(hr.1.2 _ _ _ _ _ hb).2 rfl
        refine ⟨⟨(u,Fof μ τ b) :: ps,by rw [List.map_cons,e1],by rw [List.map_cons,List.flatten_cons,e2,List.flatMap_cons],?_,e3⟩,fun c hc=>?_⟩
        · show CellT w ((A.os b g).view bl) u _
          simp only [A.view,hb,beq_self_eq_true,cond_true]
          exact row_tree hm ht hb hv
        · rcases List.mem_cons.mp hc with rfl | hc
          · exact ⟨_,_,_,hb⟩
          · exact e4 c hc
      · cases h
    | sl fr t l=>unfold movable at h;cases h
    | old t l=>unfold movable at h;cases h
    | nil t =>
      unfold movable at h
      refine plain h ?_
      have hu:u = .slice none 0 0:=hr.1
      exact ⟨u,rfl,Or.inl ⟨rfl,rfl,hu⟩⟩
    | int k n=>unfold movable at h;exact plain h ⟨hr.1,rfl⟩
    | bool b=>unfold movable at h;exact plain h ⟨hr.1,rfl⟩
    | str s=>unfold movable at h;exact plain h ⟨hr.1,rfl⟩
    | undef=>unfold movable at h;cases h
    | err b=>unfold movable at h;cases h
    | ptr b off=>unfold movable at h;cases h
    | ep b g i off=>unfold movable at h;cases h
    | pp fr t x off=>unfold movable at h;cases h
    | fn f caps=>unfold movable at h;cases h
theorem apartAll_nodup:∀ {bs:List Nat},apartAll bs=true→bs.Nodup
  | [],_=>List.nodup_nil
  | b :: bs,h=>by
    unfold apartAll at h
    rw [Bool.and_eq_true,Bool.not_eq_true'] at h
    refine List.nodup_cons.mpr ⟨?_,apartAll_nodup h.2⟩
    have:=h.1
    rw [List.contains_eq_mem,decide_eq_false_iff_not] at this
    exact this
theorem Fof_mem {τ:Nat→List Nat} {bl:List Blk} (hm:Mem E w0 w μ bl) (ht:TreeOk E w μ bl τ) {b k:Nat} (hb:Tree bl b) (hk:k∈Fof μ τ b):E.N k∧k<w.heap.size∧((∃ c,μ b=some (k,c))∨k∈τ b):=by
  unfold Fof at hk
  split at hk
  · next k' c hμ =>
    obtain ⟨g,t,l,hbl⟩:=hb
    rcases List.mem_cons.mp hk with rfl | hk
    · refine ⟨?_,hm.lt (by unfold alive;rw [hbl];trivial) hμ,Or.inl ⟨c,hμ⟩⟩
      rcases hm.blocks b _ hbl with ⟨h1,_⟩ | ⟨k2,cap,vals,ty,fz,h1,h2,_⟩
      · rw [hμ] at h1;cases h1
      · rw [hμ] at h1;cases h1;exact h2
    · obtain ⟨h1,h2,_⟩:=ht.new b ⟨g,t,l,hbl⟩ k hk
      exact ⟨h1,h2,Or.inr hk⟩
  · cases hk
theorem tree_mine {bl:List Blk} {b:Nat} (hb:Tree bl b):mine bl b:=by
  obtain ⟨g,t,l,q⟩:=hb
  unfold mine;rw [q]
theorem Fof_apart {τ:Nat→List Nat} {bl:List Blk} (hm:Mem E w0 w μ bl) (ht:TreeOk E w μ bl τ) {b b' k:Nat} (hb:Tree bl b) (hb':Tree bl b') (hne:b≠b') (hk:k∈Fof μ τ b) (hk':k∈Fof μ τ b'):False:=by
  rcases (Fof_mem hm ht hb hk).2.2 with ⟨c,h1⟩ | h1 <;> rcases (Fof_mem hm ht hb' hk').2.2 with ⟨c',h2⟩ | h2
  · exact hne (hm.apart b b' k c c' h1 h2 (mine_alive (tree_mine hb)) (mine_alive (tree_mine hb')))
  · exact (ht.new b' hb' k h2).2.2 ⟨b,c,h1,tree_mine hb⟩
  · exact (ht.new b hb k h1).2.2 ⟨b',c',h2,tree_mine hb'⟩
  · exact ht.apart b b' hb hb' hne k h1 h2
theorem Fof_nodup {τ:Nat→List Nat} {bl:List Blk} (hm:Mem E w0 w μ bl) (ht:TreeOk E w μ bl τ):∀ {bs:List Nat},bs.Nodup→(∀ b∈bs,Tree bl b)→(bs.flatMap (Fof μ τ)).Nodup
  | [],_,_=>List.nodup_nil
  | b :: bs,hn,hb=>by
    rw [List.nodup_cons] at hn
    rw [List.flatMap_cons]
    refine List.nodup_append.mpr ⟨?_,Fof_nodup hm ht hn.2 fun c hc=>hb c (List.mem_cons_of_mem _ hc),fun k hk k' hk' e=>?_⟩
    · have hbt:=hb b (by simp)
      unfold Fof
      split
      · next k c hμ =>
        refine List.nodup_cons.mpr ⟨fun hk=>?_,ht.nodup b hbt⟩
        exact (ht.new b hbt k hk).2.2 ⟨b,c,hμ,tree_mine hbt⟩
      · exact List.nodup_nil
    · subst e
      obtain ⟨c,hc,hk'⟩:=List.mem_flatMap.mp hk'
      exact Fof_apart hm ht (hb b (by simp)) (hb c (List.mem_cons_of_mem _ hc)) (fun e=>hn.1 (e ▸ hc)) hk hk'
theorem nodup_replace {A B C G:List Nat} (h:(A++(B++C)).Nodup) (hG:G.Nodup) (hd:∀ k∈G,k ∉ A∧k ∉ C):(A++(G++C)).Nodup:=by
  rw [List.nodup_append] at h ⊢
  obtain ⟨h1,h2,h3⟩:=h
  rw [List.nodup_append] at h2
  refine ⟨h1,List.nodup_append.mpr ⟨hG,h2.2.1,fun a ha b hb e=>(hd a ha).2 (e ▸ hb)⟩,fun a ha b hb e=>?_⟩
  rcases List.mem_append.mp hb with hb | hb
  · exact (hd b hb).1 (e ▸ ha)
  · exact h3 a ha b (List.mem_append_right _ hb) e
theorem moves_alone {bl:List Blk} {cs:List A} (h:moves bl cs=true):newAlone bl cs=true:=by
  unfold moves at h
  split at h
  · next bs hbs=>exact moves_new hbs
  · cases h
theorem tree_back1 {st st':St} {b:Nat} (hf:st.freeze b=some st') {c g:Nat} {t:Ty} {l:List t.den} (hc:st'.bl[c]? = some (.arr g true true t l)):st.bl[c]? = some (.arr g true true t l)∧c≠b:=by
  unfold St.freeze at hf
  split at hf
  · next g' nf' t' l' hb =>
    obtain ⟨_,hf⟩:=cond_none' hf
    cases hf
    by_cases e:c=b
    · subst e
      rw [show ({ st with bl:=st.bl.set c (.arr g' false nf' t' l') }:St).bl=st.bl.set c (.arr g' false nf' t' l') from rfl,getElem?_set_self hb] at hc
      cases hc
    · rw [show ({ st with bl:=st.bl.set b (.arr g' false nf' t' l') }:St).bl=st.bl.set b (.arr g' false nf' t' l') from rfl,getElem?_set_ne' e] at hc
      exact ⟨hc,e⟩
  · next hne =>
    cases hf
    refine ⟨hc,?_⟩
    rintro rfl
    exact hne _ _ _ _ hc
theorem tree_backs:∀ (bs:List Nat) {st st':St},freezeAll st bs=some st'→∀ {c g:Nat} {t:Ty} {l:List t.den},st'.bl[c]? = some (.arr g true true t l)→st.bl[c]? = some (.arr g true true t l)∧c ∉ bs
  | [],st,st',hf,c,g,t,l,hc=>by simp only [freezeAll] at hf;cases hf;exact ⟨hc,by simp⟩
  | b :: bs,st,st',hf,c,g,t,l,hc=>by
    simp only [freezeAll] at hf
    split at hf
    · next st1 h1 =>
      obtain ⟨h2,h3⟩:=tree_backs bs hf hc
      obtain ⟨h4,h5⟩:=tree_back1 h1 h2
      exact ⟨h4,by rw [List.mem_cons,not_or];exact ⟨h5,h3⟩⟩
    · cases hf
theorem tree_back {bs:List Nat} {st st':St} (hf:freezeAll st bs=some st') {c g:Nat} {t:Ty} {l:List t.den} (hc:st'.bl[c]? = some (.arr g true true t l)):Tree st.bl c:=⟨g,t,l,(tree_backs bs hf hc).1⟩
theorem frozen_all {bs:List Nat} {st st':St} (hf:freezeAll st bs=some st') (b:Nat) (hb:b∈bs) (h:Tree st'.bl b):False:=by
  obtain ⟨g,t,l,q⟩:=h
  exact (tree_backs bs hf q).2 hb
theorem eff_store_elem (hcx:cx.ok P) (hR:Rel E w0 μ st a w) {t:TypeId} {ad x:Operand} (ho:o.op = .store t ad x) {ty:Ty} (ht:cx.ty t=some ty) {v:List A} (hv:(st.get x).full=some v) (hlen:v.length=ty.size)
    {b g i off:Nat} (ha:st.get ad = .at (.ep b g i off)) {nf own own2 nf2:Bool} {g2:Nat} {u t2:Ty} {l:List u.den} {l2:List t2.den} (hb:st.bl[b]? = some (.arr g own nf u l)) (hl:st.lock.contains b=false) (hle:off+v.length≤u.size)
    {y:u.den} (hp:putIn u st.bl (writeAt (u.cells (nf||u.flat) (l.getD i u.zero)) off v)=some y) {st':St} (hf:freezeAll st (rowsOf v)=some st') (hb2:st'.bl[b]? = some (.arr g2 true nf2 t2 l2))
    (h:K V.undef { st' with bl:=st'.bl.set b (.arr g true (nf&&moves st.bl v) u (l.set i y)) }=some r):Eff P E w0 μ st a w o K r:=by
  have hra:=hR.get ad
  rw [ha] at hra
  obtain ⟨hi,k,c,hk,ev⟩:=(hra.2 _ _ _ _ _ hb).2 rfl
  obtain ⟨r1,t1,g1,o1,f1,k1⟩:=freezeAll_sound _ hR hf
  obtain ⟨own',hb'⟩:=k1 _ _ _ _ _ _ hb
  rw [hb'] at hb2
  cases hb2
  have hmine:mine st'.bl b:=by unfold mine;rw [hb']
  rcases r1.mem.blocks b _ hb' with ⟨h1,_⟩ | ⟨k',cap,vals,vty,fz,h1,h2,h3,h4,h5,h6,h7⟩
  · rw [hk] at h1;cases h1
  rw [hk] at h1;cases h1
  have hrv:=full_sound (hR.get x) hv
  have hvl:=hrv.length
  have hpos:=u.size_pos
  have hin:i*u.size+u.size≤vals.toList.length:=by
    rw [Array.length_toList,h6]
    have:(i+1)*u.size≤c*u.size:=Nat.mul_le_mul_right _ (by omega)
    rw [Nat.add_mul] at this;omega
  have hnl:off+(a.eval x).cells.toList.length≤u.size:=by rw [← hvl];exact hle
  have hrun:=run_storeCells (P:=P) (off:=i*u.size+off) (a.eval x).cells.toList 0 w vals h3 h4 (ones_of hrv) (by rw [Array.length_toList] at hin;omega)
  rw [Nat.add_zero] at hrun
  have hkl:=heap_lt h3
  have hgetD:l.getD i u.zero=l[i]:=by rw [List.getD_eq_getElem?_getD,List.getElem?_eq_getElem hi];rfl
  have helem:Holds w (E.X μ st.bl (rowsOf v) (nf&&moves st.bl v)) u y (writeAt ((vals.toList.drop (i*u.size)).take u.size) off (a.eval x).cells.toList):=by
    have hold:RepAs E w μ st.bl (u.cells (nf||u.flat) (l.getD i u.zero)) ((vals.toList.drop (i*u.size)).take u.size):=by
      rw [hgetD]
      rcases hR.mem.blocks b _ hb with ⟨q1,_⟩ | ⟨k2,cap2,vals2,vty2,fz2,q1,_,q3,_,_,_,q7⟩
      · rw [hk] at q1;cases q1
      · rw [hk] at q1;cases q1
        rw [h3] at q3;cases q3
        have hh:=q7 i hi
        cases hfl:u.flat with
        | true=>exact Holds.cells (hh.flat hfl)
        | false=>rw [Bool.or_false];exact hh.cells
    refine putIn_sound hR.mem (hold.writeAt off hrv) (fun c hc b' g' e=>?_) (fun c hc fr t' l' e hne=>?_) hp
    · rcases mem_writeAt _ _ _ _ hc with hc | hc
      · exact absurd e ((cells_kind _ u _ c hc).1 b' g')
      · exact rowsOf_mem v c hc b' g' e
    · rw [Bool.and_eq_true] at hne
      have hna:newAlone st.bl v=true:=moves_alone hne.2
      rcases mem_writeAt _ _ _ _ hc with hc | hc
      · have hck:=cells_kind _ u _ c hc
        cases c <;> simp [A.view] at e
        · obtain ⟨rfl,rfl,rfl⟩:=e
          have:=(hck.2 _ _ _ rfl).1
          rw [this,hne.1];rfl
        · exact absurd rfl (hck.1 _ _)
        · exact absurd rfl ((cells_kind2 _ u _ _ hc).1 _)
        · exact absurd rfl ((cells_kind2 _ u _ _ hc).2 _ _)
      · have:=newAlone_get v hna c hc
        rw [e] at this;exact this
  have hD:∀ k2,E.X μ st.bl (rowsOf v) (nf&&moves st.bl v) k2→E.D μ st'.bl (nf&&moves st.bl v) k2:=fun k2 hk2=>Env.X_D hk2 o1 f1
  have hmt:=r1.mem.turn (w':=rowSet w k (writeAt vals.toList (i*u.size+off) (a.eval x).cells.toList) vty fz) (blk':=.arr g true (nf&&moves st.bl v) u (l.set i y)) hb' hmine (μ b) rfl rfl rfl (by rw [rowSet_size];exact Nat.le_refl _)
    (fun j hj hne=>rowSet_other fun e=>hne c (e ▸ hk)) (Or.inl rfl) (fun cs' e=>by cases e) (fun _ _ _ _ _ e=>by cases e;exact ⟨g,true,nf,l,rfl,Nat.le_refl _,fun _=>⟨by simp,rfl⟩⟩)
    (fun ev'=>Or.inr ⟨k,c,(writeAt vals.toList (i*u.size+off) (a.eval x).cells.toList).toArray,vty,fz,by rw [Lie.put_same];exact hk,h2,rowSet_same hkl,
      (fun j hj hh=>h4 j (by simpa [writeAt_length] using hj) hh),by simpa using h5,by simpa [writeAt_length] using h6,fun j hj=>by
        have hj':j<l.length:=by simpa using hj
        by_cases e:j=i
        · subst e
          have:(l.set j y)[j]=y:=by simp
          rw [this,List.toList_toArray,part_writeAt hnl hin]
          exact (helem.weaken fun k2 hk2 _=>hD k2 hk2).mono (ev'.D (E:=E))
        · have:(l.set i y)[j]=l[j]:=by rw [List.getElem_set_ne (by omega)]
          rw [this,List.toList_toArray,part_other hnl (by
            rcases Nat.lt_or_gt_of_ne e with q | q
            · left;have:(j+1)*u.size≤i*u.size:=Nat.mul_le_mul_right _ (by omega);rw [Nat.add_mul] at this;omega
            · right;have:(i+1)*u.size≤j*u.size:=Nat.mul_le_mul_right _ (by omega);rw [Nat.add_mul] at this;omega)]
          exact ((h7 j hj').weaken fun k2 hk2 _=>Env.D_less (fun h=>by rw [Bool.and_eq_true] at h;exact h.1) hk2).mono (ev'.D (E:=E))⟩)
  rw [Lie.put_eq rfl] at hmt
  have hl':st'.lock.contains b=false:=by rw [g1.lock];exact hl
  have htr:Trees E (rowSet w k (writeAt vals.toList (i*u.size+off) (a.eval x).cells.toList) vty fz) μ (st'.bl.set b (.arr g true (nf&&moves st.bl v) u (l.set i y))):=by
    obtain ⟨τ,hτ⟩:=hR.tree
    have hτ':=hτ.freezeAll _ hf
    have hw':∀ j,j<w.heap.size→(∀ c,μ b≠some (j,c))→(rowSet w k (writeAt vals.toList (i*u.size+off) (a.eval x).cells.toList) vty fz).heap[j]? = w.heap[j]?:=fun j hj hne=>rowSet_other fun e=>hne c (e ▸ hk)
    have hev:Evo w μ st'.bl (rowSet w k (writeAt vals.toList (i*u.size+off) (a.eval x).cells.toList) vty fz) (μ.put b (μ b)) (st'.bl.set b (.arr g true (nf&&moves st.bl v) u (l.set i y))):=by rw [Lie.put_eq rfl];exact hmt.2
    cases hnm:nf&&moves st.bl v with
    | false =>
      rw [hnm] at hev
      have:=hτ'.turn r1.mem hmine hw' hev (F:=[]) (fun _ _ _ e=>by cases e) (fun k hk=>by cases hk) List.nodup_nil fun _ _ _ k hk=>by cases hk
      rw [Lie.put_eq rfl] at this
      exact ⟨_,this⟩
    | true =>
      rw [Bool.and_eq_true] at hnm
      obtain ⟨rfl,hmv⟩:=hnm
      have hmv':=hmv
      unfold moves at hmv
      split at hmv
      case h_2=>cases hmv
      next bs hbs =>
      have hnd:=apartAll_nodup hmv
      have hrows:=movable_rows hbs
      obtain ⟨⟨ps,e1,e2,e3⟩,e4⟩:=moved_cells hR.mem hτ hrv hbs
      have hGn:=Fof_nodup hR.mem hτ hnd e4
      rw [hmv',Bool.and_true] at hev
      have hbn:b ∉ bs:=by
        intro hbb
        rw [← hrows] at hbb
        exact f1 b hbb k c hk ⟨_,_,_,_,_,hb⟩ ⟨b,c,hk,hmine⟩
      have own_true:own=true:=by
        cases own with
        | true=>rfl
        | false =>
          have:mine st.bl b:=by
            obtain ⟨d,e,q1,q2⟩:=o1 k ⟨b,c,hk,hmine⟩
            have:=hR.mem.apart d b k e c q1 hk (mine_alive q2) (by unfold alive;rw [hb];trivial)
            subst this
            exact q2
          unfold mine at this
          rw [hb] at this
          cases this
      subst own_true
      have hbt:Tree st.bl b:=⟨_,_,_,hb⟩
      have hbt':Tree st'.bl b:=⟨_,_,_,hb'⟩
      rcases hτ.nest b _ _ _ hb with ⟨q1,_⟩ | ⟨k2,cap2,cells2,ty2,fz2,Fs,q1,q2,q3,q4,q5⟩
      · subst q1;exact absurd hi (Nat.not_lt_zero _)
      rw [hk] at q1;cases q1
      rw [h3] at q2;cases q2
      obtain ⟨qs,a1,a2,a3⟩:=(q5 i hi).toCells (fr:=true||u.flat)
      rw [← hgetD] at a3
      have hview:((u.cells (true||u.flat) (l.getD i u.zero)).map (A.view st.bl))=u.cells (true||u.flat) (l.getD i u.zero):=by
        rw [List.map_congr_left (g:=id) fun c hc=>?_,List.map_id]
        have hck:=cells_kind _ u _ c hc
        have hck2:=cells_kind2 _ u _ c hc
        cases c <;> first | rfl | exact absurd rfl (hck.1 _ _) | exact absurd rfl (hck2.1 _) | exact absurd rfl (hck2.2 _ _)
      have hcells:CellsT w ((writeAt (u.cells (true||u.flat) (l.getD i u.zero)) off v).map (A.view st.bl)) (writeAt qs off ps):=by
        rw [map_writeAt,hview]
        exact All2.writeAt off a3 e3
      unfold putIn at hp
      split at hp
      case h_2=>cases hp
      next y' hof =>
      cases hp
      obtain ⟨p1,p2,b1,b2,b3⟩:=HoldsT.ofCells u _ _ _ _ hcells hof
      have hp2:p2=[]:=by cases p2 with | nil=>rfl | cons _ _=>exact b3.elim
      subst hp2
      rw [List.append_nil] at b1
      subst b1
      have hqlen:qs.length=u.size:=by
        have:=congrArg List.length a1
        rw [List.length_map] at this
        rw [← this,List.length_take,List.length_drop];omega
      have hplen:ps.length=v.length:=by
        have:=congrArg List.length e1
        rw [List.length_map] at this
        rw [← this,hvl]
      have hfit:off+ps.length≤qs.length:=by rw [hqlen,hplen];exact hle
      have hFi:((writeAt qs off ps).map (·.2)).flatten=((qs.take off).map (·.2)).flatten++(bs.flatMap (Fof μ τ)++((qs.drop (off+ps.length)).map (·.2)).flatten):=by
        rw [writeAt_eq hfit,List.map_append,List.map_append,List.flatten_append,List.flatten_append,e2]
      have hFi0:Fs.getD i []=((qs.take off).map (·.2)).flatten++((((qs.drop off).take ps.length).map (·.2)).flatten++((qs.drop (off+ps.length)).map (·.2)).flatten):=by
        rw [a2,← List.flatten_append,← List.flatten_append,← List.map_append,← List.map_append]
        congr 2
        rw [← List.drop_drop,List.take_append_drop,List.take_append_drop]
      have hiF:i<Fs.length:=by rw [q4];exact hi
      have hFb:τ b=((Fs.take i).flatten++((qs.take off).map (·.2)).flatten)++((((qs.drop off).take ps.length).map (·.2)).flatten++(((qs.drop (off+ps.length)).map (·.2)).flatten++(Fs.drop (i+1)).flatten)):=by
        have h1:Fs=Fs.take i++(Fs.getD i [] :: Fs.drop (i+1)):=by
          rw [List.getD_eq_getElem?_getD,List.getElem?_eq_getElem hiF,Option.getD_some,← List.drop_eq_getElem_cons hiF,List.take_append_drop]
        rw [q3]
        conv=>lhs;rw [h1]
        rw [List.flatten_append,List.flatten_cons,hFi0]
        simp only [List.append_assoc]
      have hFn:(Fs.set i ((writeAt qs off ps).map (·.2)).flatten).flatten=((Fs.take i).flatten++((qs.take off).map (·.2)).flatten)++(bs.flatMap (Fof μ τ)++(((qs.drop (off+ps.length)).map (·.2)).flatten++(Fs.drop (i+1)).flatten)):=by
        have h1:Fs.set i ((writeAt qs off ps).map (·.2)).flatten=Fs.take i++(((writeAt qs off ps).map (·.2)).flatten :: Fs.drop (i+1)):=by
          rw [List.set_eq_take_append_cons_drop,if_pos hiF]
        rw [h1,List.flatten_append,List.flatten_cons,hFi]
        simp only [List.append_assoc]
      have hsub:∀ k2∈(Fs.set i ((writeAt qs off ps).map (·.2)).flatten).flatten,k2∈τ b∨k2∈bs.flatMap (Fof μ τ):=by
        intro k2 hk2
        rw [hFn] at hk2
        rw [hFb]
        simp only [List.mem_append] at hk2 ⊢
        rcases hk2 with (h | h) | h | h | h
        · exact Or.inl (Or.inl (Or.inl h))
        · exact Or.inl (Or.inl (Or.inr h))
        · exact Or.inr h
        · exact Or.inl (Or.inr (Or.inr (Or.inl h)))
        · exact Or.inl (Or.inr (Or.inr (Or.inr h)))
      have hGdis:∀ k2∈bs.flatMap (Fof μ τ),k2 ∉ τ b:=by
        intro k2 hk2 hkb
        obtain ⟨d,hd,hk2⟩:=List.mem_flatMap.mp hk2
        rcases (Fof_mem hR.mem hτ (e4 d hd) hk2).2.2 with ⟨c2,hc2⟩ | hc2
        · exact (hτ.new b hbt k2 hkb).2.2 ⟨d,c2,hc2,tree_mine (e4 d hd)⟩
        · exact hτ.apart d b (e4 d hd) hbt (fun e=>hbn (e ▸ hd)) k2 hc2 hkb
      have hres:=hτ'.turn r1.mem hmine hw' hev (F:=(Fs.set i ((writeAt qs off ps).map (·.2)).flatten).flatten) (fun g' t' l' e=>by
          cases e
          refine Or.inr ⟨k,c,(writeAt vals.toList (i*u.size+off) (a.eval x).cells.toList).toArray,vty,fz,_,hk,rowSet_same hkl,rfl,by simpa using q4,fun j hj=>?_⟩
          have hj':j<l.length:=by simpa using hj
          have hFw:∀ k2∈(Fs.set i ((writeAt qs off ps).map (·.2)).flatten).getD j [],(rowSet w k (writeAt vals.toList (i*u.size+off) (a.eval x).cells.toList) vty fz).heap[k2]? = w.heap[k2]?:=by
            intro k2 hk2
            refine rowSet_other fun e=>?_
            subst e
            rcases hsub _ (mem_flatten_getD hk2) with h | h
            · exact (hτ.new b hbt _ h).2.2 ⟨b,c,hk,tree_mine hbt⟩
            · obtain ⟨d,hd,hk2⟩:=List.mem_flatMap.mp h
              rcases (Fof_mem hR.mem hτ (e4 d hd) hk2).2.2 with ⟨c2,hc2⟩ | hc2
              · exact hbn (by rw [← hR.mem.apart d b _ c2 c hc2 hk (mine_alive (tree_mine (e4 d hd))) (mine_alive (tree_mine hbt))];exact hd)
              · exact (hτ.new d (e4 d hd) _ hc2).2.2 ⟨b,c,hk,tree_mine hbt⟩
          by_cases e:j=i
          · subst e
            have h1:(l.set j y)[j]=y:=by simp
            have h2:(Fs.set j ((writeAt qs off ps).map (·.2)).flatten).getD j []=((writeAt qs off ps).map (·.2)).flatten:=by
              rw [List.getD_eq_getElem?_getD,List.getElem?_set_self hiF];rfl
            rw [h2] at hFw
            rw [h1,h2,List.toList_toArray,part_writeAt hnl hin]
            refine HoldsT.mono hFw ?_
            rw [a1,e1,← map_writeAt]
            exact b2
          · have h1:(l.set i y)[j]=l[j]:=by rw [List.getElem_set_ne (by omega)]
            have h2:(Fs.set i ((writeAt qs off ps).map (·.2)).flatten).getD j []=Fs.getD j []:=by
              rw [List.getD_eq_getElem?_getD,List.getElem?_set_ne (by omega),← List.getD_eq_getElem?_getD]
            rw [h2] at hFw
            rw [h1,h2,List.toList_toArray,part_other hnl (by
              rcases Nat.lt_or_gt_of_ne e with q | q
              · left;have:(j+1)*u.size≤i*u.size:=Nat.mul_le_mul_right _ (by omega);rw [Nat.add_mul] at this;omega
              · right;have:(i+1)*u.size≤j*u.size:=Nat.mul_le_mul_right _ (by omega);rw [Nat.add_mul] at this;omega)]
            exact (q5 j hj').mono hFw)
        (fun k2 hk2=>by
          rcases hsub k2 hk2 with h | h
          · obtain ⟨h1,h2,h3⟩:=hτ'.new b hbt' k2 h
            exact ⟨h1,by rw [rowSet_size];exact h2,fun ho=>h3 (hev.own k2 ho h2)⟩
          · obtain ⟨d,hd,hk3⟩:=List.mem_flatMap.mp h
            obtain ⟨h1,h2,h3⟩:=Fof_mem hR.mem hτ (e4 d hd) hk3
            refine ⟨h1,by rw [rowSet_size];exact h2,fun ho=>?_⟩
            have ho':=hev.own k2 ho h2
            rcases h3 with ⟨c2,hc2⟩ | hc2
            · obtain ⟨g3,t3,l3,q⟩:=e4 d hd
              exact f1 d (by rw [hrows];exact hd) k2 c2 hc2 ⟨_,_,_,_,_,q⟩ ho'
            · exact (hτ.new d (e4 d hd) k2 hc2).2.2 (o1 k2 ho'))
        (by
          rw [hFn]
          have hn0:=hτ.nodup b hbt
          rw [hFb] at hn0
          refine nodup_replace hn0 hGn fun k2 hk2=>?_
          have:=hGdis k2 hk2
          rw [hFb] at this
          simp only [List.mem_append,not_or] at this ⊢
          exact ⟨this.1,this.2.2⟩)
        (fun d hdb hd k2 hk2 hkd=>by
          have hd0:Tree st.bl d:=by
            obtain ⟨g3,t3,l3,q⟩:=hd
            exact tree_back hf q
          rcases hsub k2 hk2 with h | h
          · exact hτ.apart b d hbt hd0 (Ne.symm hdb) k2 h hkd
          · obtain ⟨d2,hd2,hk3⟩:=List.mem_flatMap.mp h
            have hne:d2≠d:=by
              rintro rfl
              obtain ⟨g3,t3,l3,q⟩:=hd
              obtain ⟨g4,t4,l4,q4⟩:=e4 d2 hd2
              rcases (Fof_mem hR.mem hτ (e4 d2 hd2) hk3).2.2 with ⟨c2,hc2⟩ | hc2
              · exact f1 d2 (by rw [hrows];exact hd2) k2 c2 hc2 ⟨_,_,_,_,_,q4⟩ ⟨d2,c2,hc2,tree_mine ⟨_,_,_,q⟩⟩
              · exact frozen_all hf d2 (by rw [hrows];exact hd2) ⟨_,_,_,q⟩
            rcases (Fof_mem hR.mem hτ (e4 d2 hd2) hk3).2.2 with ⟨c2,hc2⟩ | hc2
            · exact (hτ.new d hd0 k2 hkd).2.2 ⟨d2,c2,hc2,tree_mine (e4 d2 hd2)⟩
            · exact hτ.apart d2 d (e4 d2 hd2) hd0 hne k2 hc2 hkd)
      rw [Lie.put_eq rfl] at hres
      exact ⟨_,hres⟩
  refine ⟨_,_,_,undef,_,h,trivial,r1.next hmt.1 hmt.2 htr,t1,g1.trans (goes_set hl' hmt.2),Or.inr ⟨?_,rfl⟩⟩
  unfold execOp
  simp only [ho]
  have hsz:(a.eval x).cells.size=ty.size:=by rw [← hlen,hvl,Array.length_toList]
  simp [Instr.storeAt,ev,Instr.sureAddr,storeVar,run_sizeOf (hcx.ty t _ ht),hsz,hrun]
end
end Go.Proofs.YtnohkcklakipoaaGreatDoor.Ev
namespace Go.Proofs.YtnohkcklakipoaaGreatDoor.Ev
open Go Go.RowKit
set_option linter.unusedVariables false
set_option linter.unusedSimpArgs false
variable {ρ:Type}
section
variable {P:Program} {cx:Cx} {E:Env} {w0 w:World} {μ:Lie} {st:St} {a:Act} {o:Oper} {K:V→St→Option ρ} {r:ρ}
theorem Holds.one {w:World} {S:Nat→Prop}:∀ {t:Ty} {x:t.den} {vs:List Value},Holds w S t x vs→∀ u∈vs,u.oneCell'=true
  | .int k,n,vs,h,u,hu=>by simp only [Holds] at h;subst h;simp at hu;subst hu;rfl
  | .bool,b,vs,h,u,hu=>by simp only [Holds] at h;subst h;simp at hu;subst hu;rfl
  | .str,s,vs,h,u,hu=>by simp only [Holds] at h;subst h;simp at hu;subst hu;rfl
  | .adr,b,vs,h,u,hu=>by simp only [Holds] at h;obtain ⟨v,rfl,h⟩:=h;simp at hu;subst hu;exact h
  | .err,b,vs,h,u,hu=>by
    simp only [Holds] at h;obtain ⟨v,rfl,h⟩:=h
    simp at hu;subst hu
    cases b with
    | true=>obtain ⟨_,_,rfl⟩:=h;rfl
    | false=>simp only at h;subst h;rfl
  | .slice e,l,vs,h,u,hu=>by simp only [Holds] at h;obtain ⟨_,_,rfl,_⟩:=h;simp at hu;subst hu;rfl
  | .pair a b,x,vs,h,u,hu=>by
    simp only [Holds] at h
    obtain ⟨us,ws,rfl,h1,h2⟩:=h
    rcases List.mem_append.mp hu with hu | hu
    · exact h1.one u hu
    · exact h2.one u hu
  | .struct b,x,vs,h,u,hu=>Holds.one (t:=b) h u hu
structure Chunks (w:World) (S:Nat→Prop) (t:Ty) (l:List t.den) (news:List Value):Prop where
  len:news.length=l.length*t.size
  el:Elems w S t l news
theorem Chunks.one {S:Nat→Prop} {t:Ty} {l:List t.den} {news:List Value} (h:Chunks w S t l news):∀ u∈news,u.oneCell'=true:=by
  intro u hu
  obtain ⟨j,hj⟩:=List.getElem?_of_mem hu
  have hpos:=t.size_pos
  have hlt:j<news.length:=by
    rcases Nat.lt_or_ge j news.length with g | g
    · exact g
    · rw [List.getElem?_eq_none g] at hj;cases hj
  have hi:j / t.size<l.length:=by rw [Nat.div_lt_iff_lt_mul hpos,← h.len];exact hlt
  refine (h.el _ hi).one u (List.mem_of_getElem? (i:=j % t.size) ?_)
  rw [drop_take_get _ _ _ _ (Nat.mod_lt _ hpos),Nat.mul_comm,Nat.div_add_mod]
  exact hj
theorem Chunks.append {S:Nat→Prop} {t:Ty} {l m:List t.den} {xs ys:List Value} (h:Chunks w S t l xs) (h':Chunks w S t m ys):Chunks w S t (l++m) (xs++ys):=by
  refine ⟨by rw [List.length_append,List.length_append,Nat.add_mul,h.len,h'.len],fun i hi=>?_⟩
  by_cases g:i<l.length
  · rw [List.getElem_append_left g]
    have:((xs++ys).drop (i*t.size)).take t.size=(xs.drop (i*t.size)).take t.size:=by
      apply List.ext_getElem?
      intro j
      rcases Nat.lt_or_ge j t.size with q | q
      · have:(i+1)*t.size≤l.length*t.size:=Nat.mul_le_mul_right _ g
        rw [Nat.add_mul,← h.len] at this
        rw [drop_take_get _ _ _ _ q,drop_take_get _ _ _ _ q,List.getElem?_append_left (by omega)]
      · rw [List.getElem?_eq_none (by simp;omega),List.getElem?_eq_none (by simp;omega)]
    rw [this]
    exact h.el i g
  · have hi':i-l.length<m.length:=by rw [List.length_append] at hi;omega
    rw [List.getElem_append_right (by omega)]
    have:((xs++ys).drop (i*t.size)).take t.size=(ys.drop ((i-l.length)*t.size)).take t.size:=by
      apply List.ext_getElem?
      intro j
      rcases Nat.lt_or_ge j t.size with q | q
      · have e:i*t.size+j=xs.length+((i-l.length)*t.size+j):=by
          rw [h.len,← Nat.add_assoc,← Nat.add_mul,show l.length+(i-l.length)=i by omega]
        rw [drop_take_get _ _ _ _ q,drop_take_get _ _ _ _ q,e,List.getElem?_append_right (by omega),Nat.add_sub_cancel_left]
      · rw [List.getElem?_eq_none (by simp;omega),List.getElem?_eq_none (by simp;omega)]
    rw [this]
    exact h'.el _ hi'
theorem Holds.chunks {S:Nat→Prop} {t:Ty} {l:List t.den} {v:Value} (h:Holds w S (.slice t) l [v]) :
    ∃ ad cap news,v = .slice ad l.length cap∧Chunks w S t l news∧(∀ b,ad=some b→∀ j u,news[j]? = some u→w.cell? (b.add j)=some u)∧(ad=none→l=[]):=by
  simp only [Holds] at h
  obtain ⟨ad,cap,ev,hcap,hel⟩:=h
  simp only [List.cons.injEq,and_true] at ev
  subst ev
  have hpos:=t.size_pos
  cases ad with
  | none =>
    have:l=[]:=by
      cases l with
      | nil=>rfl
      | cons n r=>obtain ⟨_,_,_,e,_⟩:=hel 0 (by simp);cases e
    subst this
    exact ⟨none,cap,[],rfl,⟨by simp,fun i hi=>absurd hi (Nat.not_lt_zero _)⟩,(fun b e=>by cases e),fun _=>rfl⟩
  | some ad =>
    let news:List Value:=(List.range (l.length*t.size)).map fun j=>(w.cell? (ad.add j)).getD undef
    have hget:∀ i (hi:i<l.length),∃ cs,Holds w S t l[i] cs∧∀ j,j<t.size→cs[j]? = w.cell? (ad.add (i*t.size+j))∧(w.cell? (ad.add (i*t.size+j))).isSome:=by
      intro i hi
      obtain ⟨blk,off,cs,e,_,hcs,hcell⟩:=hel i hi
      cases e
      refine ⟨cs,hcs,fun j hj=>?_⟩
      have hl:=hcs.length
      have hj':j<cs.length:=by omega
      have:=hcell j _ (List.getElem?_eq_getElem hj')
      rw [add_none,← Nat.add_assoc,this]
      exact ⟨List.getElem?_eq_getElem hj',rfl⟩
    have hcell:∀ j,j<l.length*t.size→news[j]? = w.cell? (ad.add j):=by
      intro j hj
      have hi:j / t.size<l.length:=by rw [Nat.div_lt_iff_lt_mul hpos];exact hj
      obtain ⟨cs,_,hcs⟩:=hget _ hi
      have:=(hcs (j % t.size) (Nat.mod_lt _ hpos)).2
      rw [Nat.mul_comm,Nat.div_add_mod] at this
      simp only [news,List.getElem?_map,List.getElem?_range hj,Option.map_some]
      obtain ⟨u,hu⟩:=Option.isSome_iff_exists.mp this
      rw [hu];rfl
    have hlen:news.length=l.length*t.size:=by simp [news]
    refine ⟨some ad,cap,news,rfl,⟨hlen,fun i hi=>?_⟩,fun b e j u hj=>?_,fun e=>by cases e⟩
    · obtain ⟨cs,hh,hcs⟩:=hget i hi
      have hl:=hh.length
      have:(news.drop (i*t.size)).take t.size=cs:=by
        apply List.ext_getElem?
        intro j
        rcases Nat.lt_or_ge j t.size with q | q
        · have:(i+1)*t.size≤l.length*t.size:=Nat.mul_le_mul_right _ hi
          rw [Nat.add_mul] at this
          rw [drop_take_get _ _ _ _ q,hcell _ (by omega),(hcs j q).1]
        · rw [List.getElem?_eq_none (by simp;omega),List.getElem?_eq_none (by omega)]
      rw [this];exact hh
    · cases e
      have hlt:j<l.length*t.size:=by
        rcases Nat.lt_or_ge j (l.length*t.size) with g | g
        · exact g
        · rw [List.getElem?_eq_none (by omega)] at hj;cases hj
      rw [← hcell j hlt,hj]
theorem bytes_chunks {S:Nat→Prop} (s:ByteArray):Chunks w S (.int .u8) (bytesOf s) (byteCells s):=by
  refine ⟨by simp [byteCells_length,bytesOf,Ty.size],fun i hi=>?_⟩
  have:byteCells s=(bytesOf s).map fun n=>Value.int .u8 n:=by simp [byteCells,bytesOf]
  rw [this]
  have e:(((bytesOf s).map fun n=>Value.int .u8 n).drop (i*(Ty.int IntKind.u8).size)).take (Ty.int IntKind.u8).size=[.int .u8 (bytesOf s)[i]]:=by
    apply List.ext_getElem?
    intro j
    cases j with
    | zero =>
      rw [drop_take_get _ _ _ _ (by simp [Ty.size])]
      simp only [Ty.size,Nat.mul_one,Nat.add_zero,List.getElem?_map,List.getElem?_eq_getElem hi,Option.map_some,List.getElem?_cons_zero]
    | succ j=>simp [Ty.size];omega
  rw [e];rfl
theorem Elems.chunks {S:Nat→Prop} {t:Ty} {l:List t.den} {vals:List Value} (h:Elems w S t l vals) (hl:l.length*t.size≤vals.length):Chunks w S t l (vals.take (l.length*t.size)):=by
  refine ⟨by simp;omega,fun i hi=>?_⟩
  have:((vals.take (l.length*t.size)).drop (i*t.size)).take t.size=(vals.drop (i*t.size)).take t.size:=by
    apply List.ext_getElem?
    intro j
    rcases Nat.lt_or_ge j t.size with q | q
    · have:(i+1)*t.size≤l.length*t.size:=Nat.mul_le_mul_right _ hi
      rw [Nat.add_mul] at this
      rw [drop_take_get _ _ _ _ q,drop_take_get _ _ _ _ q,List.getElem?_take_of_lt (by omega)]
    · rw [List.getElem?_eq_none (by simp;omega),List.getElem?_eq_none (by simp;omega)]
  rw [this];exact h i hi
theorem Chunks.elems {S:Nat→Prop} {t:Ty} {l:List t.den} {news vals:List Value} (h:Chunks w S t l news) (hp:∀ j,j<news.length→vals[j]? = news[j]?):Elems w S t l vals:=by
  intro i hi
  have:(vals.drop (i*t.size)).take t.size=(news.drop (i*t.size)).take t.size:=by
    apply List.ext_getElem?
    intro j
    rcases Nat.lt_or_ge j t.size with q | q
    · have:(i+1)*t.size≤l.length*t.size:=Nat.mul_le_mul_right _ hi
      rw [Nat.add_mul,← h.len] at this
      rw [drop_take_get _ _ _ _ q,drop_take_get _ _ _ _ q,hp _ (by omega)]
    · rw [List.getElem?_eq_none (by simp;omega),List.getElem?_eq_none (by simp;omega)]
  rw [this];exact h.el i hi
theorem Chunks.weaken {S S':Nat→Prop} (hS:∀ k,S k→S' k) {t:Ty} {l:List t.den} {news:List Value} (h:Chunks w S t l news):Chunks w S' t l news :=
  ⟨h.len,fun i hi=>(h.el i hi).weaken fun k hk _=>hS k hk⟩
theorem Chunks.flat {S S':Nat→Prop} {t:Ty} (hf:t.flat=true) {l:List t.den} {news:List Value} (h:Chunks w S t l news):Chunks w S' t l news :=
  ⟨h.len,fun i hi=>(h.el i hi).flat hf⟩
theorem rowTy_sound (hcx:cx.ok P) {t:TypeId} (h:rowTy cx t=true):(∃ e',P.underlying t=some (.slice e'))∨P.underlying t=some .string:=by
  unfold rowTy at h
  split at h
  · next e he=>obtain ⟨u,hu,_⟩:=(hcx.ty t _ he).1;exact Or.inl ⟨u,hu⟩
  · next he=>exact Or.inr (hcx.ty t _ he).1
  · cases h
theorem rowOf_sound (hcx:cx.ok P) {bl:List Blk} (hm:Mem E w0 w μ bl) {Y:V} {v:Value} {m:Row} (hy:RepV E w μ bl Y v) (h:rowOf bl Y=some m) {tx:TypeId} (ht:rowTy cx tx=true) :
    ∃ news,Src P m.t.size tx v m.l.length news w∧Chunks w (E.D μ bl m.fr) m.t m.l news:=by
  have hk:=rowTy_sound hcx ht
  have base:∀ (t:Ty) (l:List t.den) (S:Nat→Prop) (fr:Bool),(∀ k,S k→E.D μ bl fr k)→(∃ ad cap news,v = .slice ad l.length cap∧Chunks w S t l news∧(∀ b,ad=some b→∀ j u,news[j]? = some u→w.cell? (b.add j)=some u)∧(ad=none→l=[])) →
      ∃ news,Src P t.size tx v l.length news w∧Chunks w (E.D μ bl (fr||t.flat)) t l news:=by
    rintro t l S fr hS ⟨ad,cap,news,rfl,hch,hc,hn⟩
    have hch2:Chunks w (E.D μ bl (fr||t.flat)) t l news:=by
      cases hf:t.flat with
      | true=>exact hch.flat hf
      | false=>rw [Bool.or_false];exact hch.weaken hS
    refine ⟨news,?_,hch2⟩
    cases ad with
    | none =>
      have:=hn rfl
      subst this
      have hnil:news=[]:=List.eq_nil_of_length_eq_zero (by rw [hch.len];simp)
      subst hnil
      exact ⟨hk,fun _=>rfl,run_firstCells_none w t.size 0 _ cap,run_firstCells_none w.drew t.size 0 _ cap,by simp,fun u hu=>by simp at hu⟩
    | some b =>
      exact ⟨hk,fun _=>rfl,run_firstCells_some w t.size _ b _ cap news hch.len (hc b rfl),run_firstCells_some w.drew t.size _ b _ cap news hch.len (by simpa using hc b rfl),hch.len,hch.one⟩
  have viewed:∀ x:A,RepA E w μ bl x v→(match x.view bl with | .sl fr t l=>some (⟨fr||t.flat,t,l⟩:Row) | _=>none)=some m→∃ news,Src P m.t.size tx v m.l.length news w∧Chunks w (E.D μ bl m.fr) m.t m.l news:=by
    intro x hx hv
    split at hv
    · next fr t l hvw =>
      cases hv
      cases x with
      | sl fr' t' l' =>
        simp only [A.view] at hvw
        cases hvw
        exact base t l _ fr (fun k hk=>hk) (Holds.chunks hx)
      | os b g =>
        simp only [A.view] at hvw
        split at hvw
        · next g' own nf u l' hb =>
          have hg:(g == g')=true:=by
            cases hgg:g == g' with
            | true=>rfl
            | false=>rw [hgg] at hvw;cases hvw
          rw [hg] at hvw
          simp only [cond_true] at hvw
          cases hvw
          have hrow:=(hx.2 _ _ _ _ _ hb).2 (by simpa using hg)
          have hh:=hm.blocks b _ hb
          rcases hh with ⟨h1,h2⟩ | ⟨k,cap,vals,ty,fz,h1,h2,h3,h4,h5,h6,h7⟩
          · subst h2
            rw [h1] at hrow
            obtain ⟨rfl,_⟩:=hrow
            refine ⟨[],⟨hk,fun _=>rfl,run_firstCells_none w _ 0 0 0,run_firstCells_none w.drew _ 0 0 0,by simp,fun u hu=>by simp at hu⟩,by simp,fun i hi=>by simp at hi⟩
          · rw [h1] at hrow
            have hrow:v = .slice (some ⟨k,0,none⟩) l.length cap:=hrow
            subst hrow
            have hle:l.length*t.size≤vals.toList.length:=by
              have:=Nat.mul_le_mul_right t.size h5
              rw [← h6] at this;simpa using this
            have hch:=Elems.chunks h7 hle
            have:=base t l (E.D μ bl nf) nf (fun k hk=>hk) ⟨some ⟨k,0,none⟩,cap,_,rfl,hch,(fun b e j u hj=>by
              cases e
              rw [add_none,Nat.zero_add,cell_row h3]
              rw [List.getElem?_take] at hj
              split at hj
              · exact hj
              · cases hj),fun e=>by cases e⟩
            rw [show ((nf||t.flat)||t.flat)=(nf||t.flat) by cases nf <;> cases t.flat <;> rfl]
            exact this
        · cases hvw
      | nil t' =>
        simp only [A.view] at hvw
        cases hvw
        have hx:v = .slice none 0 0:=hx
        subst hx
        exact base t [] (E.D μ bl true) true (fun k hk=>hk) (Holds.chunks ⟨none,0,rfl,Nat.le_refl _,fun i hi=>absurd hi (Nat.not_lt_zero _)⟩)
      | old t' l' =>
        simp only [A.view] at hvw
        cases hvw
        exact base t l _ false (fun k hk=>Env.O_D hk) (Holds.chunks hx)
      | _=>simp [A.view] at hvw
    · cases hv
  unfold rowOf at h
  split at h
  · next s =>
    cases h
    have hy:v = .string s:=hy
    subst hy
    refine ⟨byteCells s,?_,bytes_chunks s⟩
    have hl:(bytesOf s).length=s.size:=by simp [bytesOf]
    exact ⟨hk,fun _=>by simp only [Builtin.lenOf];rw [hl];rfl,by simp only [Ty.size];rw [hl];exact firstCells_string s w,by simp only [Ty.size];rw [hl];exact firstCells_string s w.drew,
      by rw [byteCells_length,hl];simp [Ty.size],fun u hu=>by obtain ⟨_,_,rfl⟩:=List.mem_map.1 hu;rfl⟩
  · next x hx =>
    have hr:RepA E w μ bl x v:=by
      cases x <;> first | exact hy | (simp [A.view] at h)
    exact viewed x hr h
  · cases h
end
end Go.Proofs.YtnohkcklakipoaaGreatDoor.Ev
