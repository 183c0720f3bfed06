/- What a connection that has told does: its answer is put behind what it told, and it is new but for its input. -/
import Derived.Test.YtnohkcklakipoaaGreatDoorEv9
import Derived.Test.YtnohkcklakipoaaGreatDoorEv6
import Derived.Test.YtnohkcklakipoaaGreatDoorProg
namespace Go.Proofs.YtnohkcklakipoaaGreatDoor.Told
open Go Go.RowKit Go.Proofs Go.Proofs.YtnohkcklakipoaaGreatDoor.Ev
set_option maxRecDepth 1000000
set_option linter.unusedVariables false
set_option linter.unusedSimpArgs false
abbrev tF:Ty:=.struct (.pair .str .str)
abbrev tR:Ty:=.struct (.pair (.int .i64) (.pair (.slice tF) .str))
abbrev tQ:Ty:=.struct (.pair .str (.pair .str (.pair (.slice tF) .str)))
abbrev tT:Ty:=.struct (.pair (.int .i64) tR)
abbrev tX:Ty:=.struct (.pair .str (.pair (.slice tF) (.pair tR (.pair (.int .i64) (.int .i64)))))
abbrev tC:Ty:=.struct (.pair (.int .i64) (.pair .str (.pair (.int .i64) (.pair tQ (.pair tQ (.pair tX (.pair .bool (.pair (.int .i64) (.pair (.int .i64) (.pair (.int .i64) (.pair (.int .i64) (.pair .bool (.pair tR (.slice tT))))))))))))))
abbrev tS:Ty:=.struct (.pair .adr (.pair .adr (.int .i64)))
noncomputable def body:Code:=Tryz.f57.body.getD .skip
noncomputable def codeA (c:Code):Code:=match c with | .seq a _=>a | _=>.skip
noncomputable def codeB (c:Code):Code:=match c with | .seq _ b=>b | _=>.skip
noncomputable def opsOf (c:Code):Array Oper:=match c with | .region _ o _=>o | _=>#[]
noncomputable def first:Code:=codeA body
noncomputable def rest:Code:=codeB body
noncomputable def ops1:Array Oper:=opsOf (codeA rest)
noncomputable def ops2:Array Oper:=opsOf (codeB rest)
def after (c:tC.den):tC.den:=(0,c.2.1,0,Ty.zero tQ,Ty.zero tQ,Ty.zero tX,false,(-1:Int),0,0,0,false,Ty.zero tR,c.2.2.2.2.2.2.2.2.2.2.2.2.2++[(c.2.2.1,c.2.2.2.2.2.2.2.2.2.2.2.2.1)])
def sem (c:tC.den):Option tC.den:=bif decide (c.2.2.2.2.2.2.2.2.2.2.2.2.2.length+1<most) then some (after c) else none
noncomputable def told:TellFn:=⟨57,51,first,rest,tC,sem⟩
theorem rest_eq:rest = .seq (.region 1 ops1 true) (.region 2 ops2 true):=by kernel_rfl
theorem det1:detOk ops1.toList=true:=by kernel_rfl
theorem det2:detOk ops2.toList=true:=by kernel_rfl
theorem list1:ops1.toList.map (·.op)=[.move (.tmp 0),.nilCheck (.tmp 13),.fieldAddr 92 (.tmp 14) 1,.load 90 (.tmp 15),.nilCheck (.tmp 16),.fieldAddr 62 (.tmp 17) 13,.load 51 (.tmp 18),
  .move (.tmp 0),.nilCheck (.tmp 20),.fieldAddr 92 (.tmp 21) 1,.load 90 (.tmp 22),.nilCheck (.tmp 23),.fieldAddr 62 (.tmp 24) 2,.load 3 (.tmp 25),
  .move (.tmp 0),.nilCheck (.tmp 27),.fieldAddr 92 (.tmp 28) 1,.load 90 (.tmp 29),.nilCheck (.tmp 30),.fieldAddr 62 (.tmp 31) 12,.load 54 (.tmp 32),
  .build 56 #[(0,.tmp 26),(1,.tmp 33)],.buildSlice 51 1 #[(0,.tmp 34)],.call ⟨.builtin .append,#[.tmp 19,.tmp 35],#[51,51]⟩,.assign (.tmp 36)]:=by kernel_rfl
theorem list2:ops2.toList.map (·.op)=[.move (.tmp 0),.nilCheck (.tmp 37),.fieldAddr 92 (.tmp 38) 1,.load 90 (.tmp 39),.move (.tmp 0),.nilCheck (.tmp 41),.fieldAddr 92 (.tmp 42) 1,.load 90 (.tmp 43),.nilCheck (.tmp 44),.fieldAddr 62 (.tmp 45) 1,.load 9 (.tmp 46),
  .move (.tmp 2),.build 62 #[(1,.tmp 47),(7,.const (.int .i64 (-1))),(13,.tmp 48)],.nilCheck (.tmp 40),.store 62 (.tmp 50) (.tmp 49)]:=by kernel_rfl
theorem writer1:[writer ops1.toList 0,writer ops1.toList 13,writer ops1.toList 14,writer ops1.toList 15,writer ops1.toList 16,writer ops1.toList 17,writer ops1.toList 18,writer ops1.toList 19,writer ops1.toList 20,writer ops1.toList 21,writer ops1.toList 22,writer ops1.toList 23,writer ops1.toList 24,writer ops1.toList 25,writer ops1.toList 26,writer ops1.toList 27,writer ops1.toList 28,writer ops1.toList 29,writer ops1.toList 30,writer ops1.toList 31,writer ops1.toList 32,writer ops1.toList 33,writer ops1.toList 34,writer ops1.toList 35,writer ops1.toList 36,writer ops1.toList 2] =
  [none,some 0,some 1,some 2,some 3,some 4,some 5,some 6,some 7,some 8,some 9,some 10,some 11,some 12,some 13,some 14,some 15,some 16,some 17,some 18,some 19,some 20,some 21,some 22,some 23,some 24]:=by kernel_rfl
theorem writer2:[writer ops2.toList 0,writer ops2.toList 2,writer ops2.toList 37,writer ops2.toList 38,writer ops2.toList 39,writer ops2.toList 40,writer ops2.toList 41,writer ops2.toList 42,writer ops2.toList 43,writer ops2.toList 44,writer ops2.toList 45,writer ops2.toList 46,writer ops2.toList 47,writer ops2.toList 48,writer ops2.toList 49,writer ops2.toList 50] =
  [none,none,some 0,some 1,some 2,some 3,some 4,some 5,some 6,some 7,some 8,some 9,some 10,some 11,some 12,some 13]:=by kernel_rfl
theorem chain1:∃ o,ops1.toList[23]? = some o∧22∈edges o∧o.type=51:=⟨(ops1.toList[23]?).getD ⟨none,.move (.tmp 0),0, "", #[],none⟩,by kernel_rfl,by decide +kernel,by kernel_rfl⟩
theorem type_S:TyOf Tryz.prog 92 tS:=(tyB_sound _).1 92 (by kernel_rfl)
theorem type_P:TyOf Tryz.prog 90 .adr:=(tyB_sound _).1 90 (by kernel_rfl)
theorem type_C:TyOf Tryz.prog 62 tC:=(tyB_sound _).1 62 (by kernel_rfl)
theorem type_R:TyOf Tryz.prog 54 tR:=(tyB_sound _).1 54 (by kernel_rfl)
theorem type_L:TyOf Tryz.prog 51 (.slice tT):=(tyB_sound _).1 51 (by kernel_rfl)
theorem type_T:TyOf Tryz.prog 56 tT:=(tyB_sound _).1 56 (by kernel_rfl)
theorem type_I:TyOf Tryz.prog 3 (.int .i64):=(tyB_sound _).1 3 (by kernel_rfl)
theorem type_G:TyOf Tryz.prog 9 .str:=(tyB_sound _).1 9 (by kernel_rfl)
theorem under_L:Tryz.prog.underlying 51=some (.slice 56):=by kernel_rfl
theorem mixed:Tryz.prog.follows .mixedOrders=true:=by kernel_rfl
theorem build_T (w:World) (n:Int) (st vf bo:Value):(Instr.build 56 #[(0,.int .i64 n),(1,.agg #[st,vf,bo])]).run Tryz.prog w = .ok (.agg #[.int .i64 n,st,vf,bo]) w:=by kernel_rfl
theorem build_L (w:World) (a b c d:Value):(Instr.buildSlice 51 1 #[(0,.agg #[a,b,c,d])]).run Tryz.prog w = .ok (.slice (some ⟨w.heap.size,0,none⟩) 1 1) { w with heap:=w.heap.push (.cells #[a,b,c,d] 56) }:=by kernel_rfl
def newCells (s:ByteArray) (v:Value):List Value:=[.int .i64 0,.string s,.int .i64 0,.string ⟨#[]⟩,.string ⟨#[]⟩,.slice none 0 0,.string ⟨#[]⟩,.string ⟨#[]⟩,.string ⟨#[]⟩,.slice none 0 0,.string ⟨#[]⟩,.string ⟨#[]⟩,.slice none 0 0,.int .i64 0,.slice none 0 0,.string ⟨#[]⟩,.int .i64 0,.int .i64 0,.bool false,.int .i64 (-1),.int .i64 0,.int .i64 0,.int .i64 0,.bool false,.int .i64 0,.slice none 0 0,.string ⟨#[]⟩,v]
theorem newCells_one (s:ByteArray) (a:Option Addr) (n c:Nat):∀ u∈newCells s (.slice a n c),u.oneCell'=true:=List.all_eq_true.mp (show ((newCells s (.slice a n c)).all fun u=>u.oneCell')=true from rfl)
theorem build_C (w:World) (s:ByteArray) (a:Option Addr) (n c:Nat):(Instr.build 62 #[(1,.string s),(7,.int .i64 (-1)),(13,.slice a n c)]).run Tryz.prog w = .ok (.agg (newCells s (.slice a n c)).toArray) w:=by kernel_rfl
section
variable {a:Act}
theorem eval_at {ops:List Oper} {vals:Nat→Value} {t j:Nat} (hw:writer ops t=some j) (ht:t<a.tmps.size):(detAct ops vals a fun _=>true).eval (.tmp t)=vals j:=by
  show (detAct ops vals a fun _=>true).tmps.getD t undef=_
  rw [Array.getD_eq_getD_getElem?,detAct_get,hw]
  simp [ht]
theorem eval_out {ops:List Oper} {vals:Nat→Value} {t:Nat} (hw:writer ops t=none):(detAct ops vals a fun _=>true).eval (.tmp t)=a.tmps.getD t undef:=by
  show (detAct ops vals a fun _=>true).tmps.getD t undef=_
  rw [Array.getD_eq_getD_getElem?,detAct_get,hw,Array.getD_eq_getD_getElem?]
theorem size_at {ops:List Oper} {vals:Nat→Value} {L:Nat→Bool}:(detAct ops vals a L).tmps.size=a.tmps.size:=by simp [detAct]
end
theorem wr1 (n:Nat) (t:Nat) (j:Option Nat) (h:([writer ops1.toList 0,writer ops1.toList 13,writer ops1.toList 14,writer ops1.toList 15,writer ops1.toList 16,writer ops1.toList 17,writer ops1.toList 18,writer ops1.toList 19,writer ops1.toList 20,writer ops1.toList 21,writer ops1.toList 22,writer ops1.toList 23,writer ops1.toList 24,writer ops1.toList 25,writer ops1.toList 26,writer ops1.toList 27,writer ops1.toList 28,writer ops1.toList 29,writer ops1.toList 30,writer ops1.toList 31,writer ops1.toList 32,writer ops1.toList 33,writer ops1.toList 34,writer ops1.toList 35,writer ops1.toList 36,writer ops1.toList 2]:List (Option Nat))[n]? = some (writer ops1.toList t))
    (h2:([none,some 0,some 1,some 2,some 3,some 4,some 5,some 6,some 7,some 8,some 9,some 10,some 11,some 12,some 13,some 14,some 15,some 16,some 17,some 18,some 19,some 20,some 21,some 22,some 23,some 24]:List (Option Nat))[n]? = some j):writer ops1.toList t=j:=by
  rw [writer1,h2] at h
  exact (Option.some.inj h).symm
theorem wr2 (n:Nat) (t:Nat) (j:Option Nat) (h:([writer ops2.toList 0,writer ops2.toList 2,writer ops2.toList 37,writer ops2.toList 38,writer ops2.toList 39,writer ops2.toList 40,writer ops2.toList 41,writer ops2.toList 42,writer ops2.toList 43,writer ops2.toList 44,writer ops2.toList 45,writer ops2.toList 46,writer ops2.toList 47,writer ops2.toList 48,writer ops2.toList 49,writer ops2.toList 50]:List (Option Nat))[n]? = some (writer ops2.toList t))
    (h2:([none,none,some 0,some 1,some 2,some 3,some 4,some 5,some 6,some 7,some 8,some 9,some 10,some 11,some 12,some 13]:List (Option Nat))[n]? = some j):writer ops2.toList t=j:=by
  rw [writer2,h2] at h
  exact (Option.some.inj h).symm
theorem region1 {w:World} {a:Act} {ks kb off:Nat} {v1:Value} {serial stat:Int} {bo:ByteArray} {vf vo v':Value} {w2:World} (hsz:51≤a.tmps.size)
    (h0:a.tmps.getD 0 undef = .pointer (some ⟨ks,0,none⟩)) (hv1:v1 = .pointer (some ⟨kb,off,none⟩)) (hS:∀ u:World,u.heap[ks]? = w.heap[ks]? → u.cell? ⟨ks,1,none⟩=some v1)
    (hB:∀ u:World,u.heap[kb]? = w.heap[kb]? → u.cell? ⟨kb,off+27,none⟩=some vo∧u.cell? ⟨kb,off+2,none⟩=some (.int .i64 serial)∧u.cell? ⟨kb,off+24,none⟩=some (.int .i64 stat)∧u.cell? ⟨kb,off+25,none⟩=some vf∧u.cell? ⟨kb,off+26,none⟩=some (.string bo))
    (hks:ks<w.heap.size) (hkb:kb<w.heap.size) (h2s:w2.heap[ks]? = w.heap[ks]?) (h2b:w2.heap[kb]? = w.heap[kb]?)
    (hr:(Builtin.append_ #[51,51] 51 #[vo,.slice (some ⟨w.heap.size,0,none⟩) 1 1]).run Tryz.prog { w with drawn:=w.drawn+1,heap:=w.heap.push (.cells #[.int .i64 serial,.int .i64 stat,vf,.string bo] 56) } = .ok v' w2)
    {Q:Exit→Act→World→Prop} (hQ:∀ vals,vals 24=v'→Q .normal (detAct ops1.toList vals a fun _=>true) w2) :
    wpAny Tryz.prog .any ops1 Q ops1.size (Array.replicate ops1.size false) a { w with drawn:=w.drawn+1 }:=by
  let sp:Value:=.pointer (some ⟨ks,0,none⟩)
  let s1:Value:=.pointer (some ⟨ks,0+1,none⟩)
  let L:List Value:=[sp,sp,s1,v1,v1,.pointer (some ⟨kb,off+27,none⟩),vo,sp,sp,s1,v1,v1,.pointer (some ⟨kb,off+2,none⟩),.int .i64 serial,sp,sp,s1,v1,v1,.pointer (some ⟨kb,off+24,none⟩),.agg #[.int .i64 stat,vf,.string bo],
    .agg #[.int .i64 serial,.int .i64 stat,vf,.string bo],.slice (some ⟨w.heap.size,0,none⟩) 1 1,v',v']
  let vals:Nat→Value:=fun j=>L.getD j undef
  let ws:Nat→World:=fun c=>match c with
    | 0=>{ w with drawn:=w.drawn+1 }
    | 1=>{ w with drawn:=w.drawn+1,heap:=w.heap.push (.cells #[.int .i64 serial,.int .i64 stat,vf,.string bo] 56) }
    | _=>w2
  have hsame:∀ c,(ws c).heap[ks]? = w.heap[ks]? ∧ (ws c).heap[kb]? = w.heap[kb]?:=by
    intro c
    match c with
    | 0=>exact ⟨rfl,rfl⟩
    | 1 =>
      constructor
      · show (w.heap.push _)[ks]? = _
        rw [Array.getElem?_push,if_neg (by omega)]
      · show (w.heap.push _)[kb]? = _
        rw [Array.getElem?_push,if_neg (by omega)]
    | c+2=>exact ⟨h2s,h2b⟩
  have hop:∀ (i:Nat) (o:Oper),ops1.toList[i]? = some o→(ops1.toList.map (·.op))[i]? = some o.op:=fun i o h=>by rw [List.getElem?_map,h];rfl
  rw [list1] at hop
  generalize hρ:(detAct ops1.toList vals a fun _=>true).eval=ρ
  have E0:ρ (.tmp 0)=sp:=by rw [← hρ,eval_out (wr1 0 0 none rfl rfl)];exact h0
  have Ev:∀ (n t j:Nat),([writer ops1.toList 0,writer ops1.toList 13,writer ops1.toList 14,writer ops1.toList 15,writer ops1.toList 16,writer ops1.toList 17,writer ops1.toList 18,writer ops1.toList 19,writer ops1.toList 20,writer ops1.toList 21,writer ops1.toList 22,writer ops1.toList 23,writer ops1.toList 24,writer ops1.toList 25,writer ops1.toList 26,writer ops1.toList 27,writer ops1.toList 28,writer ops1.toList 29,writer ops1.toList 30,writer ops1.toList 31,writer ops1.toList 32,writer ops1.toList 33,writer ops1.toList 34,writer ops1.toList 35,writer ops1.toList 36,writer ops1.toList 2]:List (Option Nat))[n]? = some (writer ops1.toList t) →
      ([none,some 0,some 1,some 2,some 3,some 4,some 5,some 6,some 7,some 8,some 9,some 10,some 11,some 12,some 13,some 14,some 15,some 16,some 17,some 18,some 19,some 20,some 21,some 22,some 23,some 24]:List (Option Nat))[n]? = some (some j)→t<51→ρ (.tmp t)=vals j:=by
    intro n t j h1 h2 h3
    rw [← hρ]
    exact eval_at (wr1 n t (some j) h1 h2) (by omega)
  have E13:ρ (.tmp 13)=sp:=Ev 1 13 0 rfl rfl (by decide)
  have E14:ρ (.tmp 14)=sp:=Ev 2 14 1 rfl rfl (by decide)
  have E15:ρ (.tmp 15)=s1:=Ev 3 15 2 rfl rfl (by decide)
  have E16:ρ (.tmp 16)=v1:=Ev 4 16 3 rfl rfl (by decide)
  have E17:ρ (.tmp 17)=v1:=Ev 5 17 4 rfl rfl (by decide)
  have E18:ρ (.tmp 18) = .pointer (some ⟨kb,off+27,none⟩):=Ev 6 18 5 rfl rfl (by decide)
  have E19:ρ (.tmp 19)=vo:=Ev 7 19 6 rfl rfl (by decide)
  have E20:ρ (.tmp 20)=sp:=Ev 8 20 7 rfl rfl (by decide)
  have E21:ρ (.tmp 21)=sp:=Ev 9 21 8 rfl rfl (by decide)
  have E22:ρ (.tmp 22)=s1:=Ev 10 22 9 rfl rfl (by decide)
  have E23:ρ (.tmp 23)=v1:=Ev 11 23 10 rfl rfl (by decide)
  have E24:ρ (.tmp 24)=v1:=Ev 12 24 11 rfl rfl (by decide)
  have E25:ρ (.tmp 25) = .pointer (some ⟨kb,off+2,none⟩):=Ev 13 25 12 rfl rfl (by decide)
  have E26:ρ (.tmp 26) = .int .i64 serial:=Ev 14 26 13 rfl rfl (by decide)
  have E27:ρ (.tmp 27)=sp:=Ev 15 27 14 rfl rfl (by decide)
  have E28:ρ (.tmp 28)=sp:=Ev 16 28 15 rfl rfl (by decide)
  have E29:ρ (.tmp 29)=s1:=Ev 17 29 16 rfl rfl (by decide)
  have E30:ρ (.tmp 30)=v1:=Ev 18 30 17 rfl rfl (by decide)
  have E31:ρ (.tmp 31)=v1:=Ev 19 31 18 rfl rfl (by decide)
  have E32:ρ (.tmp 32) = .pointer (some ⟨kb,off+24,none⟩):=Ev 20 32 19 rfl rfl (by decide)
  have E33:ρ (.tmp 33) = .agg #[.int .i64 stat,vf,.string bo]:=Ev 21 33 20 rfl rfl (by decide)
  have E34:ρ (.tmp 34) = .agg #[.int .i64 serial,.int .i64 stat,vf,.string bo]:=Ev 22 34 21 rfl rfl (by decide)
  have E35:ρ (.tmp 35) = .slice (some ⟨w.heap.size,0,none⟩) 1 1:=Ev 23 35 22 rfl rfl (by decide)
  have E36:ρ (.tmp 36)=v':=Ev 24 36 23 rfl rfl (by decide)
  have loadS:∀ (o:Oper) (c:Nat) (x:Operand),o.op = .load 90 x→ρ x=s1→RunsAs Tryz.prog o ρ (ws c) v1 (ws c):=fun o c x ho hx =>
    as_load (vs:=[v1]) type_P ho hx rfl fun j u hj=>by
      cases j with
      | zero=>simp only [List.getElem?_cons_zero,Option.some.injEq] at hj;subst hj;exact hS _ (hsame c).1
      | succ j=>simp at hj
  refine told_region det1 [22,23] ws (fun c i hi=>?_) (fun i o c hi hn hc _=>?_) (by decide) (hQ vals rfl)
  · match c,hi with
    | 0,hi =>
      simp only [List.getElem?_cons_zero,Option.some.injEq] at hi
      subst hi
      have hlt:22<ops1.toList.length:=by rw [← List.length_map (f:=fun o:Oper=>o.op),list1];decide
      refine ⟨_,List.getElem?_eq_getElem hlt,?_,fun h=>absurd h (by decide)⟩
      rw [hρ]
      have ho:=Option.some.inj (hop 22 _ (List.getElem?_eq_getElem hlt))
      exact as_buildSlice ho.symm (by simp [E34]) (build_L { w with drawn:=w.drawn+1 } (.int .i64 serial) (.int .i64 stat) vf (.string bo))
    | 1,hi =>
      simp only [List.getElem?_cons_succ,List.getElem?_cons_zero,Option.some.injEq] at hi
      subst hi
      obtain ⟨o,ho1,hed,hty⟩:=chain1
      refine ⟨o,ho1,?_,fun _=>⟨22,rfl,hed⟩⟩
      rw [hρ]
      have ho:=Option.some.inj (hop 23 _ ho1)
      exact as_append ho.symm rfl rfl rfl (by rw [E19,E35,hty];exact hr)
    | c+2,hi=>simp at hi
  · rw [hρ]
    have ho:=hop i o hi
    rcases i with _ | _ | _ | _ | _ | _ | _ | _ | _ | _ | _ | _ | _ | _ | _ | _ | _ | _ | _ | _ | _ | _ | _ | _ | _ | n
    · have:=as_move (P:=Tryz.prog) (w:=ws c) (ρ:=ρ) (Or.inl (Option.some.inj ho).symm);rw [E0] at this;exact this
    · have:=as_nilCheck (P:=Tryz.prog) (w:=ws c) (ρ:=ρ) (Option.some.inj ho).symm E13;rw [E13] at this;exact this
    · exact as_fieldAddr type_S (d:=1) rfl (Option.some.inj ho).symm E14
    · exact loadS o c _ (Option.some.inj ho).symm E15
    · have:=as_nilCheck (P:=Tryz.prog) (w:=ws c) (ρ:=ρ) (Option.some.inj ho).symm (E16.trans hv1);rw [E16] at this;exact this
    · exact as_fieldAddr type_C (d:=27) rfl (Option.some.inj ho).symm (E17.trans hv1)
    · exact as_load (vs:=[vo]) type_L (Option.some.inj ho).symm E18 rfl fun j u hj=>by
        cases j with
        | zero=>simp only [List.getElem?_cons_zero,Option.some.injEq] at hj;subst hj;exact (hB _ (hsame c).2).1
        | succ j=>simp at hj
    · have:=as_move (P:=Tryz.prog) (w:=ws c) (ρ:=ρ) (Or.inl (Option.some.inj ho).symm);rw [E0] at this;exact this
    · have:=as_nilCheck (P:=Tryz.prog) (w:=ws c) (ρ:=ρ) (Option.some.inj ho).symm E20;rw [E20] at this;exact this
    · exact as_fieldAddr type_S (d:=1) rfl (Option.some.inj ho).symm E21
    · exact loadS o c _ (Option.some.inj ho).symm E22
    · have:=as_nilCheck (P:=Tryz.prog) (w:=ws c) (ρ:=ρ) (Option.some.inj ho).symm (E23.trans hv1);rw [E23] at this;exact this
    · exact as_fieldAddr type_C (d:=2) rfl (Option.some.inj ho).symm (E24.trans hv1)
    · exact as_load (vs:=[.int .i64 serial]) type_I (Option.some.inj ho).symm E25 rfl fun j u hj=>by
        cases j with
        | zero=>simp only [List.getElem?_cons_zero,Option.some.injEq] at hj;subst hj;exact (hB _ (hsame c).2).2.1
        | succ j=>simp at hj
    · have:=as_move (P:=Tryz.prog) (w:=ws c) (ρ:=ρ) (Or.inl (Option.some.inj ho).symm);rw [E0] at this;exact this
    · have:=as_nilCheck (P:=Tryz.prog) (w:=ws c) (ρ:=ρ) (Option.some.inj ho).symm E27;rw [E27] at this;exact this
    · exact as_fieldAddr type_S (d:=1) rfl (Option.some.inj ho).symm E28
    · exact loadS o c _ (Option.some.inj ho).symm E29
    · have:=as_nilCheck (P:=Tryz.prog) (w:=ws c) (ρ:=ρ) (Option.some.inj ho).symm (E30.trans hv1);rw [E30] at this;exact this
    · exact as_fieldAddr type_C (d:=24) rfl (Option.some.inj ho).symm (E31.trans hv1)
    · exact as_load (vs:=[.int .i64 stat,vf,.string bo]) type_R (Option.some.inj ho).symm E32 rfl fun j u hj=>by
        obtain ⟨_,_,b1,b2,b3⟩:=hB _ (hsame c).2
        match j,hj with
        | 0,hj=>simp only [List.getElem?_cons_zero,Option.some.injEq] at hj;subst hj;exact b1
        | 1,hj=>simp only [List.getElem?_cons_succ,List.getElem?_cons_zero,Option.some.injEq] at hj;subst hj;exact b2
        | 2,hj=>simp only [List.getElem?_cons_succ,List.getElem?_cons_zero,Option.some.injEq] at hj;subst hj;exact b3
        | j+3,hj=>simp at hj
    · exact as_build (Option.some.inj ho).symm (by simp [E26,E33]) (build_T _ serial (.int .i64 stat) vf (.string bo))
    · exact absurd (by simp) hn
    · exact absurd (by simp) hn
    · have:=as_move (P:=Tryz.prog) (w:=ws c) (ρ:=ρ) (Or.inr (Option.some.inj ho).symm);rw [E36] at this;exact this
    · simp at ho
theorem store_edges:∃ o,ops2.toList[14]? = some o∧∀ i,i<14→i∈edges o:=⟨(ops2.toList[14]?).getD ⟨none,.move (.tmp 0),0, "", #[],none⟩,by kernel_rfl,by
  have:((List.range 14).all fun i=>(edges ((ops2.toList[14]?).getD ⟨none,.move (.tmp 0),0, "", #[],none⟩)).contains i)=true:=by kernel_rfl
  intro i hi
  have:=List.all_eq_true.mp this i (by simpa using hi)
  simpa using this⟩
theorem region2 {w:World} {a:Act} {ks kb off:Nat} {v1:Value} {cells:Array Value} {ty:TypeId} {fz:Nat × Nat} {inp:ByteArray} {ad:Option Addr} {n c:Nat} (hsz:51≤a.tmps.size)
    (h0:a.tmps.getD 0 undef = .pointer (some ⟨ks,0,none⟩)) (h2:a.tmps.getD 2 undef = .slice ad n c) (hv1:v1 = .pointer (some ⟨kb,off,none⟩)) (hS:w.cell? ⟨ks,1,none⟩=some v1)
    (hB:w.cell? ⟨kb,off+1,none⟩=some (.string inp)) (hk:w.heap[kb]? = some (.cells cells ty fz)) (hu:unfrozen cells fz) (hfit:off+28≤cells.size)
    {Q:Exit→Act→World→Prop} (hQ:∀ vals,Q .normal (detAct ops2.toList vals a fun _=>true) (rowSet { w with drawn:=w.drawn+1 } kb (writeAt cells.toList off (newCells inp (.slice ad n c))) ty fz)) :
    wpAny Tryz.prog .any ops2 Q ops2.size (Array.replicate ops2.size false) a { w with drawn:=w.drawn+1 }:=by
  let sp:Value:=.pointer (some ⟨ks,0,none⟩)
  let s1:Value:=.pointer (some ⟨ks,0+1,none⟩)
  let L:List Value:=[sp,sp,s1,v1,sp,sp,s1,v1,v1,.pointer (some ⟨kb,off+1,none⟩),.string inp,.slice ad n c,.agg (newCells inp (.slice ad n c)).toArray,v1,undef]
  let vals:Nat→Value:=fun j=>L.getD j undef
  let ws:Nat→World:=fun c'=>match c' with
    | 0=>{ w with drawn:=w.drawn+1 }
    | _=>rowSet { w with drawn:=w.drawn+1 } kb (writeAt cells.toList off (newCells inp (.slice ad n c))) ty fz
  have hop:∀ (i:Nat) (o:Oper),ops2.toList[i]? = some o→(ops2.toList.map (·.op))[i]? = some o.op:=fun i o h=>by rw [List.getElem?_map,h];rfl
  rw [list2] at hop
  generalize hρ:(detAct ops2.toList vals a fun _=>true).eval=ρ
  have E0:ρ (.tmp 0)=sp:=by rw [← hρ,eval_out (wr2 0 0 none rfl rfl)];exact h0
  have E2:ρ (.tmp 2) = .slice ad n c:=by rw [← hρ,eval_out (wr2 1 2 none rfl rfl)];exact h2
  have Ev:∀ (n t j:Nat),([writer ops2.toList 0,writer ops2.toList 2,writer ops2.toList 37,writer ops2.toList 38,writer ops2.toList 39,writer ops2.toList 40,writer ops2.toList 41,writer ops2.toList 42,writer ops2.toList 43,writer ops2.toList 44,writer ops2.toList 45,writer ops2.toList 46,writer ops2.toList 47,writer ops2.toList 48,writer ops2.toList 49,writer ops2.toList 50]:List (Option Nat))[n]? = some (writer ops2.toList t) →
      ([none,none,some 0,some 1,some 2,some 3,some 4,some 5,some 6,some 7,some 8,some 9,some 10,some 11,some 12,some 13]:List (Option Nat))[n]? = some (some j)→t<51→ρ (.tmp t)=vals j:=by
    intro n t j h1 h2 h3
    rw [← hρ]
    exact eval_at (wr2 n t (some j) h1 h2) (by omega)
  have E37:ρ (.tmp 37)=sp:=Ev 2 37 0 rfl rfl (by decide)
  have E38:ρ (.tmp 38)=sp:=Ev 3 38 1 rfl rfl (by decide)
  have E39:ρ (.tmp 39)=s1:=Ev 4 39 2 rfl rfl (by decide)
  have E40:ρ (.tmp 40)=v1:=Ev 5 40 3 rfl rfl (by decide)
  have E41:ρ (.tmp 41)=sp:=Ev 6 41 4 rfl rfl (by decide)
  have E42:ρ (.tmp 42)=sp:=Ev 7 42 5 rfl rfl (by decide)
  have E43:ρ (.tmp 43)=s1:=Ev 8 43 6 rfl rfl (by decide)
  have E44:ρ (.tmp 44)=v1:=Ev 9 44 7 rfl rfl (by decide)
  have E45:ρ (.tmp 45)=v1:=Ev 10 45 8 rfl rfl (by decide)
  have E46:ρ (.tmp 46) = .pointer (some ⟨kb,off+1,none⟩):=Ev 11 46 9 rfl rfl (by decide)
  have E47:ρ (.tmp 47) = .string inp:=Ev 12 47 10 rfl rfl (by decide)
  have E48:ρ (.tmp 48) = .slice ad n c:=Ev 13 48 11 rfl rfl (by decide)
  have E49:ρ (.tmp 49) = .agg (newCells inp (.slice ad n c)).toArray:=Ev 14 49 12 rfl rfl (by decide)
  have E50:ρ (.tmp 50)=v1:=Ev 15 50 13 rfl rfl (by decide)
  obtain ⟨oS,hoS,hedS⟩:=store_edges
  refine told_region det2 [14] ws (fun c' i hi=>?_) (fun i o c' hi hn hc hfree=>?_) (by decide) (hQ vals)
  · match c',hi with
    | 0,hi =>
      simp only [List.getElem?_cons_zero,Option.some.injEq] at hi
      subst hi
      refine ⟨oS,hoS,?_,fun h=>absurd h (by decide)⟩
      rw [hρ]
      have ho:=Option.some.inj (hop 14 _ hoS)
      have:=as_store (P:=Tryz.prog) (w:={ w with drawn:=w.drawn+1 }) (ρ:=ρ) type_C ho.symm (E50.trans hv1) hk hu (by rw [E49];rfl) (by rw [E49];exact newCells_one _ _ _ _) hfit
      rw [E49] at this
      exact this
    | c'+1,hi=>simp at hi
  · rw [hρ]
    have ho:=hop i o hi
    have hlt:i<14:=by
      have:i<15:=by
        have h1:=lt_get hi
        have h2:ops2.toList.length=15:=by rw [← List.length_map (f:=fun o:Oper=>o.op),list2];rfl
        omega
      have:i≠14:=fun e=>hn (by simp [e])
      omega
    have hc0:c'=0:=by
      rcases Nat.eq_zero_or_pos c' with q | q
      · exact q
      · exact absurd (hedS i hlt) (hfree 0 14 oS q rfl hoS)
    subst hc0
    have loadS:∀ (x:Operand),o.op = .load 90 x→ρ x=s1→RunsAs Tryz.prog o ρ (ws 0) v1 (ws 0):=fun x ho hx =>
      as_load (vs:=[v1]) type_P ho hx rfl fun j u hj=>by
        cases j with
        | zero=>simp only [List.getElem?_cons_zero,Option.some.injEq] at hj;subst hj;exact hS
        | succ j=>simp at hj
    rcases i with _ | _ | _ | _ | _ | _ | _ | _ | _ | _ | _ | _ | _ | _ | n
    · have:=as_move (P:=Tryz.prog) (w:=ws 0) (ρ:=ρ) (Or.inl (Option.some.inj ho).symm);rw [E0] at this;exact this
    · have:=as_nilCheck (P:=Tryz.prog) (w:=ws 0) (ρ:=ρ) (Option.some.inj ho).symm E37;rw [E37] at this;exact this
    · exact as_fieldAddr type_S (d:=1) rfl (Option.some.inj ho).symm E38
    · exact loadS _ (Option.some.inj ho).symm E39
    · have:=as_move (P:=Tryz.prog) (w:=ws 0) (ρ:=ρ) (Or.inl (Option.some.inj ho).symm);rw [E0] at this;exact this
    · have:=as_nilCheck (P:=Tryz.prog) (w:=ws 0) (ρ:=ρ) (Option.some.inj ho).symm E41;rw [E41] at this;exact this
    · exact as_fieldAddr type_S (d:=1) rfl (Option.some.inj ho).symm E42
    · exact loadS _ (Option.some.inj ho).symm E43
    · have:=as_nilCheck (P:=Tryz.prog) (w:=ws 0) (ρ:=ρ) (Option.some.inj ho).symm (E44.trans hv1);rw [E44] at this;exact this
    · exact as_fieldAddr type_C (d:=1) rfl (Option.some.inj ho).symm (E45.trans hv1)
    · exact as_load (vs:=[.string inp]) type_G (Option.some.inj ho).symm E46 rfl fun j u hj=>by
        cases j with
        | zero=>simp only [List.getElem?_cons_zero,Option.some.injEq] at hj;subst hj;exact hB
        | succ j=>simp at hj
    · have:=as_move (P:=Tryz.prog) (w:=ws 0) (ρ:=ρ) (Or.inl (Option.some.inj ho).symm);rw [E2] at this;exact this
    · exact as_build (Option.some.inj ho).symm (by
        have:ρ (.const (.int .i64 (-1))) = .int .i64 (-1):=by rw [← hρ];rfl
        simp [E47,E48,this]) (build_C _ inp ad n c)
    · have:=as_nilCheck (P:=Tryz.prog) (w:=ws 0) (ρ:=ρ) (Option.some.inj ho).symm (E40.trans hv1);rw [E40] at this;exact this
    · omega
theorem told_tree {w:World} {n:Int} {r:tR.den} {v:Value} {F:List Nat} (h:HoldsT w (.slice tF) r.2.1 [v] F):HoldsT w tT (n,r) [.int .i64 n,.int .i64 r.1,v,.string r.2.2] F:=by
  obtain ⟨p1,p2,e1,e2,e3⟩:=HoldsT.ofCells (w:=w) (need:=false) tT [.int .i64 n,.int .i64 r.1,.sl true tF r.2.1,.str r.2.2] [(.int .i64 n,[]),(.int .i64 r.1,[]),(v,F),(.string r.2.2,[])] (n,r) [] ⟨⟨rfl,rfl⟩,⟨rfl,rfl⟩,h,⟨rfl,rfl⟩,trivial⟩ (by kernel_rfl)
  have hp2:p2=[]:=by cases p2 with | nil=>rfl | cons _ _=>exact e3.elim
  subst hp2
  rw [List.append_nil] at e1
  subst e1
  simpa using e2
theorem new_tree {w:World} {x:tC.den} {v:Value} {F:List Nat} (h:HoldsT w (.slice tT) (x.2.2.2.2.2.2.2.2.2.2.2.2.2++[(x.2.2.1,x.2.2.2.2.2.2.2.2.2.2.2.2.1)]) [v] F):HoldsT w tC (after x) (newCells x.2.1 v) F:=by
  have hn:CellT w (.sl true tF []) (.slice none 0 0) []:=by
    show HoldsT w (.slice tF) [] [.slice none 0 0] []
    simp [HoldsT]
  obtain ⟨p1,p2,e1,e2,e3⟩:=HoldsT.ofCells (w:=w) (need:=false) tC [.int .i64 0,.str x.2.1,.int .i64 0,.str ⟨#[]⟩,.str ⟨#[]⟩,.sl true tF [],.str ⟨#[]⟩,.str ⟨#[]⟩,.str ⟨#[]⟩,.sl true tF [],.str ⟨#[]⟩,.str ⟨#[]⟩,.sl true tF [],.int .i64 0,.sl true tF [],.str ⟨#[]⟩,.int .i64 0,.int .i64 0,.bool false,.int .i64 (-1),.int .i64 0,.int .i64 0,.int .i64 0,.bool false,.int .i64 0,.sl true tF [],.str ⟨#[]⟩,.sl true tT (x.2.2.2.2.2.2.2.2.2.2.2.2.2++[(x.2.2.1,x.2.2.2.2.2.2.2.2.2.2.2.2.1)])] [(.int .i64 0,[]),(.string x.2.1,[]),(.int .i64 0,[]),(.string ⟨#[]⟩,[]),(.string ⟨#[]⟩,[]),(.slice none 0 0,[]),(.string ⟨#[]⟩,[]),(.string ⟨#[]⟩,[]),(.string ⟨#[]⟩,[]),(.slice none 0 0,[]),(.string ⟨#[]⟩,[]),(.string ⟨#[]⟩,[]),(.slice none 0 0,[]),(.int .i64 0,[]),(.slice none 0 0,[]),(.string ⟨#[]⟩,[]),(.int .i64 0,[]),(.int .i64 0,[]),(.bool false,[]),(.int .i64 (-1),[]),(.int .i64 0,[]),(.int .i64 0,[]),(.int .i64 0,[]),(.bool false,[]),(.int .i64 0,[]),(.slice none 0 0,[]),(.string ⟨#[]⟩,[]),(v,F)] (after x) []
    ⟨⟨rfl,rfl⟩,⟨rfl,rfl⟩,⟨rfl,rfl⟩,⟨rfl,rfl⟩,⟨rfl,rfl⟩,hn,⟨rfl,rfl⟩,⟨rfl,rfl⟩,⟨rfl,rfl⟩,hn,⟨rfl,rfl⟩,⟨rfl,rfl⟩,hn,⟨rfl,rfl⟩,hn,⟨rfl,rfl⟩,⟨rfl,rfl⟩,⟨rfl,rfl⟩,⟨rfl,rfl⟩,⟨rfl,rfl⟩,⟨rfl,rfl⟩,⟨rfl,rfl⟩,⟨rfl,rfl⟩,⟨rfl,rfl⟩,⟨rfl,rfl⟩,hn,⟨rfl,rfl⟩,h,trivial⟩ (by kernel_rfl)
  have hp2:p2=[]:=by cases p2 with | nil=>rfl | cons _ _=>exact e3.elim
  subst hp2
  rw [List.append_nil] at e1
  subst e1
  simpa [newCells] using e2
theorem told_ok:told.ok Tryz.prog:=by
  refine ⟨⟨Tryz.f57,Tryz.func57,by decide +kernel,by kernel_rfl,by kernel_rfl,by kernel_rfl⟩,?_⟩
  intro E w0 w μ bl τ a s b g i c0 c2 l x y hm ht hdef hsz hp hs hb hx hy
  have hsz:51≤a.tmps.size:=hsz
  have hy:sem x=some y:=hy
  unfold sem at hy
  have hlen:=of_decide_eq_true (cond_none hy).1
  replace hy:=(cond_none hy).2
  cases hy
  obtain ⟨ks,cs,eμs,eptr⟩:=hp.2 _ hs
  obtain ⟨k',c',svals,sty,sfz,q1,hNs,hks,hsu,hreps⟩:=hm.blocks s _ hs
  rw [eμs] at q1;cases q1
  have hkslt:=heap_lt hks
  obtain ⟨v1,hsv1,hrep1⟩:=All2.get hreps (i:=1) rfl
  have hg:=(hrep1.2 _ _ _ _ _ hb).2 rfl
  obtain ⟨hi,kb,cap,eμb,ev1⟩:=hg
  obtain ⟨cells,ty,fz,F,hkb,hunf,hcsz,hlcap,hT,hFn,hkF,hFlt,hch⟩:=elem_change hm ht hb hi eμb
  have hkblt:=heap_lt hkb
  have hxl:l[i]=x:=by rw [List.getElem?_eq_getElem hi] at hx;exact Option.some.inj hx
  rw [hxl] at hT
  obtain ⟨ps,evs,eF,hC⟩:=hT.toCells (fr:=true)
  have get:∀ (j:Nat) (c:A),(tC.cells true x)[j]? = some c→∃ p,ps[j]? = some p∧CellT w c p.1 p.2∧cells.toList[i*tC.size+j]? = some p.1:=by
    intro j c h
    obtain ⟨p,hp1,hp2⟩:=All2.get hC h
    refine ⟨p,hp1,hp2,?_⟩
    have:(ps.map (·.1))[j]? = some p.1:=by rw [List.getElem?_map,hp1];rfl
    rw [← evs] at this
    exact (getElem?_part this).1
  obtain ⟨p1,e1,c1,m1⟩:=get 1 (.str x.2.1) rfl
  obtain ⟨p2,e2,c2',m2⟩:=get 2 (.int .i64 x.2.2.1) rfl
  obtain ⟨p24,e24,c24,m24⟩:=get 24 (.int .i64 x.2.2.2.2.2.2.2.2.2.2.2.2.1.1) rfl
  obtain ⟨p25,e25,c25,m25⟩:=get 25 (.sl true tF x.2.2.2.2.2.2.2.2.2.2.2.2.1.2.1) rfl
  obtain ⟨p26,e26,c26,m26⟩:=get 26 (.str x.2.2.2.2.2.2.2.2.2.2.2.2.1.2.2) rfl
  obtain ⟨p27,e27,c27,m27⟩:=get 27 (.sl true tT x.2.2.2.2.2.2.2.2.2.2.2.2.2) rfl
  have c1:p1.1 = .string x.2.1:=c1.1
  have c2':p2.1 = .int .i64 x.2.2.1:=c2'.1
  have c24:p24.1 = .int .i64 x.2.2.2.2.2.2.2.2.2.2.2.2.1.1:=c24.1
  have c26:p26.1 = .string x.2.2.2.2.2.2.2.2.2.2.2.2.1.2.2:=c26.1
  have c25:HoldsT w (.slice tF) x.2.2.2.2.2.2.2.2.2.2.2.2.1.2.1 [p25.1] p25.2:=c25
  have c27:HoldsT w (.slice tT) x.2.2.2.2.2.2.2.2.2.2.2.2.2 [p27.1] p27.2:=c27
  have hFs:(ps.map (·.2)).flatten.Nodup:=by rw [← eF];exact hFn
  have hat:∀ (j:Nat) (p:Value × List Nat),ps[j]? = some p→(ps.map (·.2)).getD j []=p.2:=by
    intro j p h
    rw [List.getD_eq_getElem?_getD,List.getElem?_map,h];rfl
  have hin:∀ (j:Nat) (p:Value × List Nat),ps[j]? = some p→∀ k∈p.2,k∈F:=by
    intro j p h k hk
    rw [eF];exact mem_flatten_getD (i:=j) (by rw [hat j p h];exact hk)
  have hapart:∀ k∈p27.2,k ∉ p25.2:=by
    intro k h1 h2
    have:=nodup_apart hFs 27 25 k (by rw [hat 27 p27 e27];exact h1) (by rw [hat 25 p25 e25];exact h2)
    omega
  have hn27:p27.2.Nodup:=by have:=nodup_getD hFs 27;rwa [hat 27 p27 e27] at this
  have hn25:p25.2.Nodup:=by have:=nodup_getD hFs 25;rwa [hat 25 p25 e25] at this
  have hsb:ks≠kb:=by
    rintro rfl
    have:=hm.apart s b ks _ _ eμs eμb (mine_alive (by unfold mine;rw [hs];trivial)) (mine_alive (by unfold mine;rw [hb]))
    subst this
    rw [hs] at hb;cases hb
  have hksF:ks ∉ F:=fun h=>by
    have hTb:Tree bl b:=⟨g,tC,l,hb⟩
    obtain ⟨τ',hch'⟩:=hch w _ x F ⟨rfl,rfl,rfl,Nat.le_refl _,fun _ _ _=>rfl⟩ (by
      have:(writeAt cells.toList (i*tC.size) ((cells.toList.drop (i*tC.size)).take tC.size)).toArray=cells:=by
        have hroom:i*tC.size+tC.size≤cells.toList.length:=by
          rw [Array.length_toList,hcsz,← Nat.succ_mul];exact Nat.mul_le_mul_right _ (by omega)
        rw [writeAt_eq (by rw [List.length_take,List.length_drop];omega)]
        apply Array.ext'
        rw [List.toList_toArray,List.length_take,List.length_drop,Nat.min_eq_left (by omega)]
        conv=>rhs;rw [← List.take_append_drop (i*tC.size) cells.toList,← List.take_append_drop tC.size (cells.toList.drop (i*tC.size)),List.drop_drop]
      show w.heap[kb]? = some (.cells (writeAt cells.toList (i*tC.size) (List.take tC.size (List.drop (i*tC.size) cells.toList))).toArray ty fz)
      rw [this];exact hkb) hT hFn (fun j hj=>⟨Or.inl hj,(hFlt j hj).2⟩)
    obtain ⟨b2,hb2,hT2,hk2⟩:=hch'.from_ ks (List.mem_cons_of_mem _ h)
    obtain rfl:b2=b:=by simpa using hb2
    rcases (Fof_mem hm ht hT2 hk2).2.2 with ⟨c9,q⟩ | q
    · rw [eμb] at q;cases q;exact hsb rfl
    · exact (ht.new b2 hT2 ks q).2.2 ⟨s,cs,eμs,by unfold mine;rw [hs];trivial⟩
  have hpush:∀ (o:Obj) (k:Nat),k<w.heap.size→(w.heap.push o)[k]? = w.heap[k]?:=fun o k hk=>by rw [Array.getElem?_push,if_neg (by omega)]
  obtain ⟨ii,hii,hisz,hby,hiz⟩:=type_T.basic
  have hap:=tree_append (P:=Tryz.prog) { w with drawn:=w.drawn+1,heap:=w.heap.push (.cells #[.int .i64 x.2.2.1,.int .i64 x.2.2.2.2.2.2.2.2.2.2.2.2.1.1,p25.1,.string x.2.2.2.2.2.2.2.2.2.2.2.2.1.2.2] 56) } (t1:=51) (ty:=51) type_T under_L hii hisz hby hiz
    (l:=x.2.2.2.2.2.2.2.2.2.2.2.2.2) (m:=[(x.2.2.1,x.2.2.2.2.2.2.2.2.2.2.2.2.1)]) (v:=p27.1) (vy:=.slice (some ⟨w.heap.size,0,none⟩) 1 1) (Fo:=p27.2) (news:=[.int .i64 x.2.2.1,.int .i64 x.2.2.2.2.2.2.2.2.2.2.2.2.1.1,p25.1,.string x.2.2.2.2.2.2.2.2.2.2.2.2.1.2.2]) (Gs:=[p25.2])
    (c27.mono fun k hk=>hpush _ k (hFlt k (hin 27 p27 e27 k hk)).2)
    (Src.ofSlice _ under_L ⟨w.heap.size,0,none⟩ 1 1 _ rfl (fun j u hj=>by
      rw [add_none,Nat.zero_add,cell_row (vals:=#[.int .i64 x.2.2.1,.int .i64 x.2.2.2.2.2.2.2.2.2.2.2.2.1.1,p25.1,.string x.2.2.2.2.2.2.2.2.2.2.2.2.1.2.2]) (t:=56) (fz:=(0,0)) (by show (w.heap.push _)[w.heap.size]? = _;rw [Array.getElem?_push,if_pos rfl])]
      exact hj) (fun u hu=>by
      simp only [List.mem_cons,List.not_mem_nil,or_false] at hu
      rcases hu with rfl | rfl | rfl | rfl
      · rfl
      · rfl
      · exact (HoldsT.holds c25).one _ (List.mem_singleton_self _)
      · rfl))
    ⟨rfl,fun j hj=>by
      have hj0:j=0:=by simpa using hj
      subst hj0
      exact told_tree (r:=x.2.2.2.2.2.2.2.2.2.2.2.2.1) (c25.mono fun k hk=>hpush _ k (hFlt k (hin 25 p25 e25 k hk)).2)⟩
    (by
      rw [List.flatten_cons,List.flatten_nil,List.append_nil,List.nodup_append]
      exact ⟨hn27,hn25,fun k hk k2 hk2 e=>hapart k hk (e ▸ hk2)⟩)
    (fun j hj=>by
      rw [List.flatten_cons,List.flatten_nil,List.append_nil] at hj
      rw [Array.size_push]
      rcases List.mem_append.mp hj with h | h
      · have:=(hFlt j (hin 27 p27 e27 j h)).2;omega
      · have:=(hFlt j (hin 25 p25 e25 j h)).2;omega)
    (by simpa using hlen) (by simp)
  obtain ⟨v',w2,F2,hrun,hmk,hT2,hF2n,hF2m⟩:=hap
  rw [List.flatten_cons,List.flatten_nil,List.append_nil] at hF2m
  obtain ⟨ad,n,c,hv'⟩:∃ ad n c,v' = .slice ad n c:=by
    have h:=hT2
    simp only [HoldsT] at h
    obtain ⟨u,e,h⟩:=h
    cases e
    rcases h with ⟨_,_,rfl⟩ | ⟨k,cap,cl,ty',fz',Fs,rfl,_⟩
    · exact ⟨_,_,_,rfl⟩
    · exact ⟨_,_,_,rfl⟩
  subst hv'
  have hsz1:w.heap.size<w2.heap.size:=by have:=hmk.size;rw [Array.size_push] at this;omega
  have hkeep:∀ k,k<w.heap.size→k ∉ p27.2→w2.heap[k]? = w.heap[k]?:=fun k hk hn=>(hmk.block k (by rw [Array.size_push];omega) hn).trans (hpush _ k hk)
  have h2s:w2.heap[ks]? = w.heap[ks]?:=hkeep ks hkslt fun h=>hksF (hin 27 p27 e27 ks h)
  have h2b:w2.heap[kb]? = w.heap[kb]?:=hkeep kb hkblt fun h=>hkF (hin 27 p27 e27 kb h)
  have cellS:∀ u:World,u.heap[ks]? = w.heap[ks]? → u.cell? ⟨ks,1,none⟩=some v1:=fun u hu=>by
    rw [cell_row (hu.trans hks)];exact hsv1
  have cellB:∀ u:World,u.heap[kb]? = w.heap[kb]? → ∀ (j:Nat) (p:Value),cells.toList[i*tC.size+j]? = some p→u.cell? ⟨kb,i*tC.size+0+j,none⟩=some p:=fun u hu j p h=>by
    rw [cell_row (hu.trans hkb)];exact h
  show rest.wp Tryz.prog _ a w
  rw [rest_eq]
  refine wp_seq (wp_region_any mixed ?_)
  refine region1 (off:=i*tC.size+0) hsz eptr ev1 cellS (fun u hu=>⟨cellB u hu 27 _ m27,cellB u hu 2 _ (by rw [m2,c2']),cellB u hu 24 _ (by rw [m24,c24]),cellB u hu 25 _ m25,cellB u hu 26 _ (by rw [m26,c26])⟩) hkslt hkblt h2s h2b hrun fun vals hvals=>?_
  refine wp_region_any mixed ?_
  have hfit:i*tC.size+0+28≤cells.size:=by
    have:i*tC.size+tC.size≤cells.size:=by
      rw [hcsz,← Nat.succ_mul];exact Nat.mul_le_mul_right _ (by omega)
    exact this
  refine region2 (ad:=ad) (n:=n) (c:=c) (by rw [size_at];exact hsz) ?_ ?_ ev1 (cellS w2 h2s) (cellB w2 h2b 1 _ (by rw [m1,c1])) (h2b.trans hkb) hunf hfit fun vals2=>?_
  · have:=eval_out (a:=a) (vals:=vals) (wr1 0 0 none rfl rfl)
    exact this.trans eptr
  · have:=eval_at (a:=a) (vals:=vals) (wr1 25 2 (some 24) rfl rfl) (by omega)
    exact this.trans hvals
  refine ⟨Or.inl rfl,hdef,?_⟩
  have hkb2:kb<w2.heap.size:=by omega
  have hkbF2:kb ∉ F2:=fun h=>by
    rcases (hF2m kb h).1 with q | q
    · rcases List.mem_append.mp q with q | q
      · exact hkF (hin 27 p27 e27 kb q)
      · exact hkF (hin 25 p25 e25 kb q)
    · rw [Array.size_push] at q;omega
  obtain ⟨τ',hτ'⟩:=hch (rowSet { w2 with drawn:=w2.drawn+1 } kb (writeAt cells.toList (i*tC.size+0) (newCells x.2.1 (.slice ad n c))) ty fz) (newCells x.2.1 (.slice ad n c)) (after x) F2
    ⟨hmk.os,hmk.tape,hmk.output,by rw [rowSet_size];show w.heap.size≤w2.heap.size;omega,fun k hk hn=>by
      rw [List.mem_cons,not_or] at hn
      rw [rowSet_other hn.1]
      exact hkeep k hk fun h=>hn.2 (hin 27 p27 e27 k h)⟩
    (rowSet_same hkb2)
    (new_tree (hT2.mono fun k hk=>rowSet_other (w:={ w2 with drawn:=w2.drawn+1 }) fun e=>hkbF2 (by rw [← e];exact hk)))
    hF2n (fun j hj=>by
      obtain ⟨h1,h2⟩:=hF2m j hj
      rw [rowSet_size]
      refine ⟨?_,h2⟩
      rcases h1 with h1 | h1
      · rcases List.mem_append.mp h1 with h1 | h1
        · exact Or.inl (hin 27 p27 e27 j h1)
        · exact Or.inl (hin 25 p25 e25 j h1)
      · rw [Array.size_push] at h1;exact Or.inr (by omega))
  exact ⟨_,τ',hτ'⟩
end Go.Proofs.YtnohkcklakipoaaGreatDoor.Told
