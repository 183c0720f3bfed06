/- strings.IndexRune of a rune that is no ASCII sign, in a blank and a tab. No program is named. -/
import Derived.Test.YtnohkcklakipoaaGreatDoorEvLt
import Derived.Test.YtnohkcklakipoaaGreatDoorEvLs
import Derived.Shelf.Strings.IndexAny
import Derived.Shelf.Small.Utf8
import Derived.WalkMore
import Derived.BigQuiet
import Derived.Shelf.RegionOpenPlain
namespace Go.Proofs.YtnohkcklakipoaaGreatDoor.Ev
open Go Go.Shelf Go.RowKit Go.Lib Go.Proofs
variable {P:Program} {ρ:Ren}
set_option linter.unusedVariables false
set_option linter.unusedSimpArgs false
def blankTab:ByteArray:=⟨#[32,9]⟩
theorem run_convert_rune (src dst:TypeId) (q:IntKind) (n:Int) (w:World) (hs:P.underlying src=some (.int q)) (hd:P.underlying dst=some .string) :
    (convert src dst (.int q n)).run P w = .ok (.string (Utf8.encode n)) w:=by
  simp [convert,run_underlying hs,run_underlying hd,Conv.intToString]
set_option maxHeartbeats 8000000 in
set_option maxRecDepth 1000000 in
theorem IndexRune_high (L:Lays.n152 P ρ) (r:Int) (w:World) (h0:128≤r) (h1:r<2147483648) :
    Calls P (ρ.f 152) #[.string blankTab,.int .i32 r] w fun e w'=>e = .returned (.int .i64 (-1))∧Below w.heap.size w w':=by
  have mixed:=L.mixed
  have t0:=L.t0;have a0:=L.a0;have z0:=L.z0;have v0:=L.v0
  have t3:=L.t3;have a3:=L.a3;have z3:=L.z3;have v3:=L.v3
  have t4:=L.t4;have a4:=L.a4;have z4:=L.z4;have v4:=L.v4
  have t5:=L.t5;have a5:=L.a5;have z5:=L.z5;have v5:=L.v5
  have t9:=L.t9;have a9:=L.a9;have z9:=L.z9;have v9:=L.v9
  have t21:=L.t21;have a21:=L.a21;have z21:=L.z21;have v21:=L.v21
  have e137:∀ args w,(callFunc (ρ.f 137) args).run P w = .ok (.enter (ρ.f 137) args) w:=enters_of L.f137 (by kernel_rfl) rfl
  have e119:∀ args w,(callFunc (ρ.f 119) args).run P w = .ok (.enter (ρ.f 119) args) w:=enters_of L.f119 (by kernel_rfl) rfl
  have hlt:decide (r<128)=false:=decide_eq_false (by omega)
  have hge:decide ((0:Int)≤r)=true:=decide_eq_true (by omega)
  by_cases hE:r=65533
  · subst hE
    go_enter L.f152,Body.n152_ntmps ρ
    repeat go_step
    go_loopg [5,6] 2 (fun g _ _ wx=>∃ i:Nat,i+g=2∧wx=w.iter blankTab i)
    case atStart=>exact ⟨0,rfl,rfl⟩
    case round =>
      obtain ⟨i,hig,rfl⟩:=hrel
      cases gk with
      | zero =>
        obtain rfl:i=2:=by omega
        have hnx:=fun ty=>run_next_end (P:=P) w blankTab 2 ty (by decide)
        go_wp2
        go_ret
        exact ⟨rfl,(Below.refl _ _).alloc (Nat.le_refl _) _⟩
      | succ g =>
        have hi:i<blankTab.size:=by show i<2;omega
        obtain ⟨x,hx⟩:∃ x:UInt8,blankTab[i]'hi=x:=⟨_,rfl⟩
        have hx128:x.toNat<128:=by
          rw [← hx]
          obtain rfl | rfl:i=0∨i=1:=by omega
          · exact (by decide:(32:UInt8).toNat<128)
          · exact (by decide:(9:UInt8).toNat<128)
        have hnx:=fun ty=>run_next_ascii (P:=P) w blankTab i ty hi (by rw [hx];exact hx128)
        rw [hx] at hnx
        clear hx
        have hne:((x.toNat:Int) == 65533)=false:=beq_eq_false_iff_ne.2 (by omega)
        go_wp2
        go_roundg g
        case measure=>omega
        case rel=>exact ⟨i+1,by omega,rfl⟩
  · have hne:(r == (65533:Int))=false:=beq_eq_false_iff_ne.2 hE
    cases hv:Lib.validRune r with
    | false =>
      go_enter L.f152,Body.n152_ntmps ρ
      go_wp2_with (go_at_fn (ρ.f 119);refine (Any.utf8_ValidRune { L with } _ _).mono ?_;rintro e w' ⟨rfl,hw⟩;rw [hw,hv])
      go_ret
      exact ⟨rfl,Below.refl _ _⟩
    | true =>
      have hcv:=fun w=>run_convert_rune (P:=P) (ρ.t 21) (ρ.t 9) .i32 r w t21 t9
      obtain ⟨hs2,hs4,b,hb,hb128⟩:=encode_high (r:=r) h0
      generalize Utf8.encode r=rs at hcv hs2 hs4 hb
      have hsz:(blankTab.size:Int)=2:=rfl
      go_enter L.f152,Body.n152_ntmps ρ
      go_wp2_with (go_at_fn (ρ.f 119);refine (Any.utf8_ValidRune { L with } _ _).mono ?_;rintro e w' ⟨rfl,hw⟩;rw [hw,hv])
      clear hw w'
      apply wp_scope_straight
      repeat go_step
      go_loopg [9,10,11,12] 1 (fun g p9 p10 p11 p12 wx=>g=1∧p9 = .int .i64 ((rs.size:Int)-1)∧wx=w)
      case atStart=>exact ⟨rfl,rfl,rfl⟩
      case round =>
        obtain ⟨hg,hu9,hwr⟩:=hrel
        subst hg
        subst hu9
        subst hwr
        rcases Nat.lt_or_ge 2 rs.size with hs3 | hs3
        · repeat go_step
          simp only [Exit.noGoto_ret,Exit.inBlock]
          go_ret
          exact ⟨rfl,Below.refl _ _⟩
        · have hs:rs.size=2:=by omega
          have hsi:(rs.size:Int)=2:=by omega
          have hb1:rs[1]'(by omega)=b:=by
            have h:=hb
            rw [hs] at h
            rw [getElem?_pos rs 1 (by omega)] at h
            exact Option.some.inj h
          have hwrap:IntKind.i64.wrap 2=2:=by decide
          have hidx:∀ c,Lib.indexByte (List.take (blankTab.size-2) (List.drop 2 blankTab.data.toList)) c = -1:=fun c=>rfl
          have hne9:(((blankTab[1]'(by decide)).toNat:Int) != (b.toNat:Int))=true:=by
            rw [bne_iff_ne]
            have:(blankTab[1]'(by decide)).toNat=9:=rfl
            omega
          repeat go_step
          apply wp_scope_straight
          repeat go_step
          go_quiet_o (fail)
          repeat go_step
          go_quiet_o (exact (Any.strings_IndexByte { L with } _ _ _).mono fun _ _ q=>⟨q.1,_,q.2⟩)
          repeat go_step
          simp only [Exit.noGoto_ret,Exit.inBlock,Exit.then]
          go_ret
          exact ⟨rfl,below_drewN _ _⟩
theorem contains_blank (x:UInt8) (h:128≤x.toNat):blankTab.data.toList.contains x=false:=by
  show [(32:UInt8),9].contains x=false
  rw [List.contains_eq_any_beq]
  simp only [List.any_cons,List.any_nil,Bool.or_false,Bool.or_eq_false_iff,beq_eq_false_iff_ne]
  refine ⟨fun e=>?_,fun e=>?_⟩ <;> (subst e;revert h;decide)
theorem data_get {s:ByteArray} {i:Nat} (h:i<s.size):s.data.toList[i]? = some (s.get! i):=by
  rw [get_bang h];exact Lib.data_getElem? s i h
theorem next_step (w wx:World) (s:ByteArray) (i:Nat) (hi:i<s.size) (hh:wx.heap[w.heap.size]? = some (.stringIter s i)) (hb:Below w.heap.size w wx) :
    ∃ W1 n,(∀ ty,(Instr.next (.pointer (some ⟨w.heap.size,0,none⟩)) true ty).run P wx = .ok (.tuple #[.bool true,.int .i64 i,.int .i32 (Utf8.decode s i).1]) W1)∧n=(Utf8.decode s i).2 ∧
      W1.heap[w.heap.size]? = some (.stringIter s (i+n))∧Below w.heap.size w W1:=by
  have hlt:w.heap.size<wx.heap.size:=by
    rcases Nat.lt_or_ge w.heap.size wx.heap.size with q | q
    · exact q
    · rw [Array.getElem?_eq_none q] at hh;cases hh
  refine ⟨_,_,fun ty=>run_next_any wx w.heap.size s i ty hh hi,rfl,?_,?_⟩
  · simp [hlt]
  · refine ⟨hb.os,hb.tape,hb.output,by simp;exact hb.size,fun k hk=>?_⟩
    rw [← hb.block k hk]
    simp only [Array.getElem?_setIfInBounds]
    rw [if_neg (by omega)]
set_option maxHeartbeats 8000000 in
set_option maxRecDepth 1000000 in
theorem IndexAny_short (L:Lays.n153 P ρ) (s:ByteArray) (w:World) (h8:s.size≤8) :
    Calls P (ρ.f 153) #[.string s,.string blankTab] w fun e w'=>e = .returned (.int .i64 (Lib.indexAny s.data.toList blankTab.data.toList))∧Below w.heap.size w w':=by
  have hemp:blankTab.toList.isEmpty=false:=by rw [Lib.toList_data];rfl
  have hn1:((blankTab.size:Int) == 1)=false:=rfl
  have h8z:decide ((8:Int)<(s.size:Int))=false:=decide_eq_false (by omega)
  have t0:=L.t0;have a0:=L.a0;have z0:=L.z0;have v0:=L.v0
  have t3:=L.t3;have a3:=L.a3;have z3:=L.z3;have v3:=L.v3
  have t4:=L.t4;have a4:=L.a4;have z4:=L.z4;have v4:=L.v4
  have t5:=L.t5;have a5:=L.a5;have z5:=L.z5;have v5:=L.v5
  have t9:=L.t9;have a9:=L.a9;have z9:=L.z9;have v9:=L.v9
  have t21:=L.t21;have a21:=L.a21;have z21:=L.z21;have v21:=L.v21
  have e152:∀ args w,(callFunc (ρ.f 152) args).run P w = .ok (.enter (ρ.f 152) args) w:=enters_of L.f152 (by kernel_rfl) rfl
  have e226:∀ args w,(callFunc (ρ.f 226) args).run P w = .ok (.enter (ρ.f 226) args) w:=enters_of L.f226 (by kernel_rfl) rfl
  go_enter L.f153,Body.n153_ntmps ρ
  go_wp2_with (go_at_fn (ρ.f 226);refine (Any.strings_shouldUseASCIISet { L with } _ _).mono ?_;rintro e w' ⟨rfl,hw⟩;rw [hw,h8z])
  go_loopg [9,10] s.size (fun g _ _ wx=>∃ i:Nat,i≤s.size∧s.size≤i+g∧wx.heap[w.heap.size]? = some (.stringIter s i)∧Below w.heap.size w wx∧Lib.NoAny s.data.toList blankTab.data.toList i)
  case atStart=>exact ⟨0,Nat.zero_le _,by omega,World.iter_heap w s 0,(Below.refl _ _).alloc (Nat.le_refl _) _,Lib.NoAny.zero _ _⟩
  case round =>
    obtain ⟨i,hil,hig,hh,hbel,hno⟩:=hrel
    have HB:Aside (Below w.heap.size w wr):=hbel
    have HN:Aside (Lib.NoAny s.data.toList blankTab.data.toList i):=hno
    clear hno hbel
    rcases Nat.lt_or_ge i s.size with hi | hi
    · obtain ⟨W1,n,hnx,hn,hh1,hb1⟩:=next_step (P:=P) w wr s i hi hh HB.out
      have HB1:Aside (Below w.heap.size w W1):=hb1
      have HH1:Aside (W1.heap[w.heap.size]? = some (.stringIter s (i+n))):=hh1
      clear hb1 hh1 hh
      obtain ⟨x,hx⟩:∃ x:UInt8,s.get! i=x:=⟨_,rfl⟩
      have hxl:s.data.toList[i]? = some x:=by rw [← hx];exact data_get hi
      rcases Nat.lt_or_ge x.toNat 128 with hx128 | hx128
      · have hd:Utf8.decode s i=(x.toNat,1):=by
          have:=decode_ascii s i hi (by rw [← get_bang hi,hx];exact hx128)
          rw [this,← get_bang hi,hx]
        rw [hd] at hnx hn
        obtain rfl:n=1:=hn
        have Hx:Aside (s.data.toList[i]? = some x):=hxl
        clear hxl hx hd
        have hcon:=Lib.contains_iff_indexByte blankTab.data.toList x
        have hback:((x.toNat:Int)).toNat.toUInt8=x:=by simp
        cases hin:blankTab.data.toList.contains x
        · rw [hin] at hcon
          have hlt:¬ ((0:Int)≤Lib.indexByte blankTab.data.toList x):=of_decide_eq_false hcon.symm
          clear hcon
          go_wp2_with (go_at_fn (ρ.f 152);refine (Any.strings_IndexRune_ascii { L with } _ _ _ (by omega) (by omega)).mono ?_;rintro e w' ⟨rfl,hw⟩;rw [hw,hback])
          go_roundg (gk-1)
          case measure=>omega
          case rel=>exact ⟨i+1,by omega,by omega,HH1.out,HB1.out,HN.out.succ Hx.out hin⟩
        · rw [hin] at hcon
          have hge:(0:Int)≤Lib.indexByte blankTab.data.toList x:=of_decide_eq_true hcon.symm
          clear hcon
          go_wp2_with (go_at_fn (ρ.f 152);refine (Any.strings_IndexRune_ascii { L with } _ _ _ (by omega) (by omega)).mono ?_;rintro e w' ⟨rfl,hw⟩;rw [hw,hback])
          go_ret
          exact ⟨by rw [Lib.indexAny_hit HN.out Hx.out hin];rfl,HB1.out⟩
      · obtain ⟨d1,d2,d3,d4,d5⟩:=decode_high s i hi (by rw [hx];exact hx128)
        rw [← hn] at d3 d4 d5
        obtain ⟨r,hr⟩:∃ r:Nat,(Utf8.decode s i).1=r:=⟨_,rfl⟩
        rw [hr] at hnx d1 d2
        have HD:Aside (∀ j,j<n→128≤(s.get! (i+j)).toNat):=d5
        clear d5 hxl hx hn hr
        have hm1:¬ ((0:Int) ≤ -1):=by decide
        go_wp2_with (go_at_fn (ρ.f 152);refine (IndexRune_high { L with } _ _ (by omega) (by omega)).mono ?_;rintro e w' ⟨rfl,hw⟩)
        have hW:w.heap.size<W1.heap.size:=by
          rcases Nat.lt_or_ge w.heap.size W1.heap.size with q | q
          · exact q
          · have:=HH1.out
            rw [Array.getElem?_eq_none q] at this;cases this
        go_roundg (gk-1)
        case measure=>omega
        case rel =>
          refine ⟨i+n,by omega,by omega,(hw.block _ hW).trans HH1.out,HB1.out.trans (hw.mono (Nat.le_of_lt hW)),fun j b hj hb=>?_⟩
          rcases Nat.lt_or_ge j i with q | q
          · exact HN.out j b q hb
          · obtain ⟨m,rfl⟩:∃ m,j=i+m:=⟨j-i,by omega⟩
            have h1:=HD.out m (by omega)
            rw [data_get (by omega)] at hb
            cases hb
            exact contains_blank _ h1
    · obtain rfl:i=s.size:=by omega
      have hnx:=fun ty=>run_next_over (P:=P) wr w.heap.size s s.size ty hh (Nat.lt_irrefl _)
      clear hh
      go_wp2
      go_ret
      exact ⟨by rw [Lib.indexAny_none (by rw [← Lib.size_eq];exact HN.out)];rfl,HB.out⟩
def semIndexAny2 (s t:ByteArray):Option Int :=
  bif decide (s.size≤8)&&decide (t=blankTab) then some (Lib.indexAny s.data.toList blankTab.data.toList) else semIndexAny s t
theorem ok_IndexAny2 {G:World→Prop} {f:FuncId} {fn:Func} (hf:P.funcs[f]? = some fn) (hn:decide (fn.name = "runtime.NumGoroutine")=false) (hb:fn.body.isSome=true) {ty:TypeId}
    (h:∀ (s t:ByteArray) (w:World),2≤t.size→8<s.size→s.size<4294967281→t.size<4294967281→(∀ (j:Nat) b,t.data.toList[j]? = some b→b.toNat<128) →
      Calls P f #[.string s,.string t] w fun e w'=>e = .returned (.int .i64 (Lib.indexAny s.data.toList t.data.toList))∧w'=((w.alloc (.cells (Lib.setCells t.data.toList) ty)).alloc (.cells (Lib.setCells t.data.toList) ty)))
    (L:Lays.n153 P ρ) (hρ:ρ.f 153=f) :
    CSpec.ok P G f { params:=[.str,.str],res:=[(.int .i64,false)],fresh:=true,sem:=fun x=>semIndexAny2 x.1 x.2.1 }:=by
  refine ok_int hf hn hb fun w hw S args x r ha hs=>?_
  cases args_two ha
  have hs:semIndexAny2 x.1 x.2.1=some r:=hs
  unfold semIndexAny2 at hs
  cases hc:(decide (x.1.size≤8)&&decide (x.2.1=blankTab)) with
  | true =>
    rw [hc,cond_true] at hs
    cases hs
    rw [Bool.and_eq_true] at hc
    have h1:=of_decide_eq_true hc.1
    have h2:=of_decide_eq_true hc.2
    rw [← hρ,h2]
    exact (IndexAny_short L x.1 w h1).mono fun _ _ q=>q
  | false =>
    rw [hc,cond_false] at hs
    unfold semIndexAny at hs
    obtain ⟨h1,hs⟩:=cond_none hs
    rw [Bool.and_eq_true] at h1
    have h2:=of_decide_eq_true h1.1
    cases hs
    refine (h x.1 x.2.1 w h2.2.2.1 h2.1 h2.2.1 h2.2.2.2 fun j b hb=>of_decide_eq_true (List.all_eq_true.mp h1.2 b (List.mem_of_getElem? hb))).mono ?_
    rintro e w' ⟨rfl,rfl⟩
    exact ⟨rfl,((Below.refl _ _).alloc (Nat.le_refl _) _).alloc (by simp) _⟩
end Go.Proofs.YtnohkcklakipoaaGreatDoor.Ev
