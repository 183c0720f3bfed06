/- slices.Clone of whatever elements, as a contract that the evaluator takes. No program is named. -/
import Derived.Test.YtnohkcklakipoaaGreatDoorEv6
import Derived.Shelf.SlicesE.Clone
namespace Go.Proofs
open Go.Shelf Go.RowKit Go.Lib
set_option maxHeartbeats 2000000 in
set_option maxRecDepth 100000 in
theorem YtnohkcklakipoaaGreatDoor.Ev.clone_zero {P:Program} {ρ:Ren} (L:SlLaysE0.n41 P ρ) (i0:TypeInfo) (z:Value) (size bytes:Nat) (hi:P.info? (ρ.t 23)=some i0) (hz0:i0.zero=some z) (hz1:i0.size=size) (hz2:i0.bytes=bytes) (hzs:z.cells.size=size) (hsz:0<size)
    (z23:∀ w,(Go.sizeOf (ρ.t 23)).run P w = .ok size w) (ad:Addr) (c:Nat) (w:World) :
    Calls P (ρ.f 41) #[.slice (some ad) 0 c] w fun e w'=>∃ v',e = .returned v'∧w'.ownsRow w.heap.size (ρ.t 23) size v' 0 []∧Below w.heap.size w w':=by
  have mixed:=L.mixed;have t4:=L.t4;have a4:=L.a4;have z4:=L.z4;have v4:=L.v4;have t22:=L.t22;have a22:=L.a22;have z22:=L.z22;have v22:=L.v22
  have q22:∀ (w:World) (a:Option Addr) (n c n' c':Nat),(binOp .eql (ρ.t 22) (.slice a n c) (.slice none n' c')).run P w = .ok (.bool a.isNone) w:=fun w a n c n' c'=>Lib.run_eql_slice_nil w _ _ a n c n' c' L.t22
  have u22:∀ w,Sem.run P (underlying (ρ.t 22)) w = .ok (TypeDesc.slice (ρ.t 23)) w:=run_underlying t22
  obtain ⟨_,_,FG⟩:=L.f41
  go_enter FG,SlBodyN.n41_ntmps ρ
  go_wp2_with (at_builtin;refine wpList_append_own _ rfl _ _ (ρ.t 22) rfl w.heap.size (ρ.t 23) i0 z size bytes t22 hi hz0 hz1 hz2 hzs hsz _ _ _ rfl (World.ownsRow_made w #[] 0 (Nat.le_refl _) (Nat.zero_le _) (by simp)) ad 0 c [] rfl ?qc1 ?qc2 ?qc3 ?qc4 ?qc5 ?qc6 ?_)
  case qc1=>simp
  case qc2 =>
    intro j u hj
    simp at hj
  case qc3=>intro u hu;simp at hu
  case qc4=>rw [Nat.zero_add];exact Nat.zero_le _
  case qc5=>simp
  case qc6=>simp
  intro v' w1 hown hgrow hnil
  go_wp2
  go_ret
  refine ⟨v',rfl,by simpa using hown,?_⟩
  exact ((Below.refl _ w).alloc (Nat.le_refl _) _).grown hgrow (by simp) (by intro k hk;simp [Value.ownBlock] at hk;omega)
end Go.Proofs
namespace Go.Proofs.YtnohkcklakipoaaGreatDoor.Ev
open Go Go.RowKit
set_option linter.unusedVariables false
set_option linter.unusedSimpArgs false
def semClone {α:Type} (l:List α):Option (List α):=bif decide (l.length≤34359738368) then some l else none
theorem ok_Clone {P:Program} {G:World→Prop} {fn:Func} {ρ:Go.Shelf.Ren} (L:SlLaysE0.n41 P ρ) (hf:P.funcs[ρ.f 41]? = some fn) (hn:decide (fn.name = "runtime.NumGoroutine")=false) (hb:fn.body.isSome=true) {e:Ty} (hte:(tyB P e).1 (ρ.t 23)=true) :
    CSpec.ok P G (ρ.f 41) { params:=[.slice e],res:=[(.slice e,true)],fresh:=e.flat,sem:=fun x=>semClone x.1 }:=by
  have hty:TyOf P (ρ.t 23) e:=(tyB_sound e).1 (ρ.t 23) hte
  refine ⟨⟨fn,hf,of_decide_eq_false hn,hb⟩,fun w hG S args x r ha hs=>?_⟩
  match args,ha with
  | [v],ha =>
    have hs:semClone x.1=some r:=hs
    unfold semClone at hs
    obtain ⟨hsz,hs⟩:=cond_none hs
    have hsz:=of_decide_eq_true hsz
    cases hs
    have hv:Holds w S (.slice e) x.1 [v]:=ha.1
    obtain ⟨a,cap,news,hva,hch,hcell,hnone⟩:=hv.chunks
    have hpos:=e.size_pos
    obtain ⟨i0,hi,hz1,hbytes,hz0⟩:=hty.basic
    have hzs:(zeroV e).cells.size=e.size:=by rw [zeroV_cells hty];simp [zeroVals_length]
    have fin:∀ (v':Value) (w':World),w'.ownsRow w.heap.size (ρ.t 23) e.size v' x.1.length news→Below w.heap.size w w' →
        CSpec.post { params:=[.slice e],res:=[(.slice e,true)],fresh:=e.flat,sem:=fun x=>semClone x.1 } w S x.1 v' w':=by
      rintro v' w' ⟨hl,hown⟩ hbel
      rcases hown with ⟨rfl,h0⟩ | ⟨g,cp,cur,rfl,hg,hheap,hle,hcap,hcur,htake⟩
      · refine ⟨hbel,[.slice none 0 0],[none],rfl,⟨fun k c hc=>by simp at hc,fun i j k c c' hi hj=>?_⟩,?_⟩
        · cases i with
          | zero=>simp at hi
          | succ i=>simp at hi
        · refine ⟨⟨_,none,rfl,rfl,⟨rfl,h0⟩,Or.inl ⟨rfl,List.length_eq_zero_iff.mp h0⟩⟩,[],NewTrees.none fun i g t l q=>?_⟩
          cases i with
          | succ i=>simp [giveRes,oneRes,Ty.ownRows] at q
          | zero =>
            simp only [giveRes,oneRes,cond_true,Ty.ownRows,List.getElem?_cons_zero,Option.some.injEq,Blk.arr.injEq] at q
            obtain ⟨_,_,_,rfl,q⟩:=q
            exact Or.inl ⟨by rw [← eq_of_heq q];exact List.length_eq_zero_iff.mp h0,rfl⟩
      · refine ⟨hbel,[.slice (some ⟨g,0,none⟩) x.1.length cp],[some (g,cp)],rfl,⟨fun k c hc=>?_,fun i j k c c' hi hj=>?_⟩,?_⟩
        · simp only [List.mem_singleton,Option.some.injEq,Prod.mk.injEq] at hc
          rw [hc.1];exact hg
        · cases i with
          | zero=>cases j with
            | zero=>rfl
            | succ j=>simp at hj
          | succ i=>simp at hi
        · have hel:Elems w S e x.1 cur.toList:=by
            refine hch.elems fun j hj=>?_
            rw [← htake,List.getElem?_take_of_lt (by rw [← hl];exact hj)]
          refine ⟨⟨_,some (g,cp),rfl,rfl,rfl,Or.inr ⟨g,cp,cur,_,(0,0),rfl,hheap,unfrozen_zero _,hle,hcur,?_⟩⟩,[],NewTrees.none fun i g' t l q=>?_⟩
          rotate_left
          · cases i with
            | succ i=>simp [giveRes,oneRes,Ty.ownRows] at q
            | zero =>
              simp only [giveRes,oneRes,cond_true,Ty.ownRows,List.getElem?_cons_zero,Option.some.injEq,Blk.arr.injEq] at q
              obtain ⟨_,_,hfl,rfl,q⟩:=q
              have q:=eq_of_heq q
              subst q
              exact NestT.none rfl hheap fun i hi=>((hel i hi).mono (S':=S) (w':=w') fun k hk hlt=>⟨hk,hbel.block k hlt⟩).tree hfl
          intro i hi'
          have hh:=hel i hi'
          have hS:∀ k,S k→k<w.heap.size→(∀ c,some (k,c) ∉ [some (g,cp)]):=fun k _ hk c hc=>by
            simp only [List.mem_singleton,Option.some.injEq,Prod.mk.injEq] at hc
            omega
          cases hfl:e.flat with
          | true=>exact (hh.mono (S':=S) (w':=w') fun k hk hlt=>⟨hk,hbel.block k hlt⟩).flat hfl
          | false=>exact hh.mono fun k hk hlt=>⟨⟨Or.inr ⟨rfl,hk⟩,hS k hk hlt⟩,hbel.block k hlt⟩
    subst hva
    cases a with
    | none =>
      refine (AnyE.slices_Clone_nil L x.1.length cap w).mono ?_
      rintro y w' ⟨rfl,rfl⟩
      have hl0:=hnone rfl
      have hn0:news=[]:=by have:=hch.len;rw [hl0] at this;simpa using this
      exact fin _ _ ⟨by rw [hl0,hn0];simp,Or.inl ⟨rfl,by rw [hl0];rfl⟩⟩ (Below.refl _ _)
    | some ad =>
      by_cases h0:x.1=[]
      · have hn0:news=[]:=by have:=hch.len;rw [h0] at this;simpa using this
        have hx0:x.1.length=0:=by rw [h0];rfl
        rw [hx0]
        refine (clone_zero L i0 _ _ _ hi hz0 hz1 rfl hzs hpos (fun w=>run_sizeOf hty w) ad cap w).mono ?_
        rintro y w' ⟨v',rfl,h1,h2⟩
        exact fin v' w' (by rw [hx0,hn0];exact h1) h2
      · obtain ⟨blk,off,rfl⟩:∃ blk off,ad=⟨blk,off,none⟩:=by
          simp only [Holds] at hv
          obtain ⟨a',cap',hv',_,hel⟩:=hv
          simp only [List.cons.injEq,Value.slice.injEq,and_true] at hv'
          obtain ⟨blk,off,cs,e1,_⟩:=hel 0 (List.length_pos_iff.mpr h0)
          rw [← hv'.1] at e1
          cases e1
          exact ⟨blk,off,rfl⟩
        refine (AnyE.slices_Clone L i0 _ _ _ hi hz0 hz1 rfl hzs hpos (fun w=>run_sizeOf hty w) blk off x.1.length cap news w hch.len (by unfold maxLen;omega) ?_ ?_ hch.one).mono ?_
        · have:x.1.length*i0.bytes≤x.1.length*4096:=Nat.mul_le_mul_left _ hbytes
          omega
        · intro j u hj
          have:=hcell _ rfl j u hj
          unfold Addr.add at this
          split at this
          · next hj0=>subst hj0;exact this
          · exact this
        · rintro y w' ⟨v',rfl,h1,_,h2⟩
          exact fin v' w' h1 h2
end Go.Proofs.YtnohkcklakipoaaGreatDoor.Ev
