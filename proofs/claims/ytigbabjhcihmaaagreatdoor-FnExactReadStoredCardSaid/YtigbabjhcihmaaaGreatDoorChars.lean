/- Letters and texts: the program's tests and the reference's are one. -/
import Derived.Test.YtigbabjhcihmaaaGreatDoorDec
import Derived.Test.YtigbabjhcihmaaaGreatDoorEvLc
namespace Go.Proofs.YtigbabjhcihmaaaGreatDoor.Fns
open Go Go.RowKit Go.Proofs Go.Proofs.YtigbabjhcihmaaaGreatDoor.Ev Go.Proofs.YtigbabjhcihmaaaGreatDoor.Pl
set_option linter.unusedVariables false
set_option linter.unusedSimpArgs false
set_option maxRecDepth 100000
theorem byte_of {p:Nat→UInt8→Prop} (h:∀ n:Fin 256,p n.val (UInt8.ofNat n.val)) (b:UInt8):p b.toNat b:=by
  have:=h ⟨b.toNat,b.toNat_lt⟩
  simpa using this
theorem bt_at (s:ByteArray) (i:Nat) (h:i<s.data.toList.length):bt s (i:Int)=((s.data.toList[i]).toNat:Int):=by
  unfold bt
  rw [stuckOn_eq,Int.toNat_natCast]
  have h':i<s.data.size:=by simpa using h
  show ((s.data[i]!).toNat:Int)=_
  rw [getElem!_pos s.data i h']
  simp
theorem iter_bytes {ρ:Type} {step:(Int × Unit→Option ρ)→Int × Unit→Option ρ} (s:ByteArray) (q:UInt8→Bool) (A B:Option ρ)
    (hs:∀ (i:Nat) (h:i<s.data.toList.length) rec,decide ((i:Int)<(s.size:Int))=true→decide (0≤(i:Int)∧(i:Int)<(s.size:Int))=true→wrap64 ((i:Int)+1)=((i+1:Nat):Int)→bt s (i:Int)=((s.data.toList[i]).toNat:Int) →
      step rec ((i:Int),())=bif q s.data.toList[i] then rec (((i+1:Nat):Int),()) else A)
    (he:∀ rec,decide ((s.size:Int)<(s.size:Int))=false→step rec ((s.size:Int),())=B) (k:Nat) (hk:s.size<k) (hb:s.size<4611686018427387904) :
    iter step k ((0:Int),())=bif s.data.toList.all q then B else A:=by
  have hsz:=size_data s
  refine iter_list s.data.toList q A B (fun i h rec=>hs i h rec (dT (by omega)) (dT (by omega)) (by rw [w64 (by omega) (by omega)];simp) (bt_at s i h)) (fun rec=>?_) k (by omega)
  rw [← hsz]
  exact he rec (dF (by omega))
def tok (b:UInt8):Bool:=(Tok.G307 0 (b.toNat:Int)).getD false
theorem tokS (k:Nat) (b:UInt8):Tok.G307 k (b.toNat:Int)=some (tok b):=by
  have h:∀ n:Fin 256,Tok.G307 0 (n.val:Int)=some ((Tok.G307 0 (n.val:Int)).getD false):=by decide +kernel
  exact h ⟨b.toNat,b.toNat_lt⟩
theorem tokI (k:Nat) (b:UInt8):∃ r,F340 k (b.toNat:Int)=some r∧(r=true→tok b=true)∧(r=false→∃ n,semIndexByte (ByteArray.mk #[33,35,36,37,38,39,42,43,45,46,94,95,124,126,96]) (b.toNat:Int)=some n∧tok b = !decide (n<0)):=by
  have h:∀ n:Fin 256,((F340 0 (n.val:Int)).any fun r=>(!r||tok (UInt8.ofNat n.val))&&(r||((semIndexByte (ByteArray.mk #[33,35,36,37,38,39,42,43,45,46,94,95,124,126,96]) (n.val:Int)).any fun m=>tok (UInt8.ofNat n.val) == !decide (m<0))))=true:=by decide +kernel
  have h:=byte_of (p:=fun n b=>((F340 0 (n:Int)).any fun r=>(!r||tok b)&&(r||((semIndexByte (ByteArray.mk #[33,35,36,37,38,39,42,43,45,46,94,95,124,126,96]) (n:Int)).any fun m=>tok b == !decide (m<0))))=true) h b
  have h:((F340 k (b.toNat:Int)).any fun r=>(!r||tok b)&&(r||((semIndexByte (ByteArray.mk #[33,35,36,37,38,39,42,43,45,46,94,95,124,126,96]) (b.toNat:Int)).any fun m=>tok b == !decide (m<0))))=true:=h
  cases hr:F340 k (b.toNat:Int) with
  | none=>rw [hr] at h;cases h
  | some r =>
    rw [hr] at h
    simp only [Option.any_some,Bool.and_eq_true,Bool.or_eq_true] at h
    refine ⟨r,rfl,fun e=>?_,fun e=>?_⟩
    · subst e;simpa using h.1
    · subst e
      have h2:=h.2
      simp only [Bool.false_eq_true,false_or] at h2
      cases hn:semIndexByte (ByteArray.mk #[33,35,36,37,38,39,42,43,45,46,94,95,124,126,96]) (b.toNat:Int) with
      | none=>rw [hn] at h2;cases h2
      | some n=>rw [hn] at h2;exact ⟨n,rfl,by simpa using h2⟩
def isTok (s:ByteArray):Bool:=s.data.toList.all tok&&decide (0<s.size)
theorem tokText_S (k:Nat) (s:ByteArray) (hk:s.size<k) (hb:s.size<4611686018427387904):F275 k s=some (isTok s):=by
  unfold F275
  refine (iter_bytes s tok (some false) (some (decide ((0:Int)<(s.size:Int)))) (fun i h rec e1 e2 e3 e4=>?_) (fun rec e=>?_) k hk hb).trans ?_
  · simp only [e1,e2,e3,e4,cond_true,tokS,Option.bind_some]
    cases tok s.data.toList[i] <;> rfl
  · simp only [e,cond_false]
  · unfold isTok
    cases s.data.toList.all tok with
    | true=>simp
    | false=>rfl
theorem tokText_I (k:Nat) (s:ByteArray) (hk:s.size<k) (hb:s.size<4611686018427387904):F314 k s=some (isTok s):=by
  unfold F314
  refine (iter_bytes s tok (some false) (some (!decide (s=(ByteArray.mk #[])))) (fun i h rec e1 e2 e3 e4=>?_) (fun rec e=>?_) k hk hb).trans ?_
  · obtain ⟨r,q1,q2,q3⟩:=tokI k s.data.toList[i]
    simp only [e1,e2,e3,e4,cond_true,q1,Option.bind_some]
    cases r with
    | true=>rw [q2 rfl];rfl
    | false =>
      obtain ⟨n,g1,g2⟩:=q3 rfl
      simp only [Bool.not_false,cond_true,g1,Option.bind_some]
      rw [g2]
      cases decide (n<0) <;> rfl
  · simp only [e,cond_false]
  · unfold isTok
    have:(!decide (s=ByteArray.mk #[]))=decide (0<s.size):=by
      by_cases h:s=ByteArray.mk #[]
      · subst h;rfl
      · rw [dF h,dT ?_]
        · rfl
        · rcases Nat.eq_zero_or_pos s.size with q | q
          · exfalso;apply h;apply bytes_ext
            rw [size_data] at q
            exact List.length_eq_zero_iff.mp q
          · exact q
    rw [this]
    cases s.data.toList.all tok <;> rfl
def low (b:UInt8):UInt8:=if 65≤b.toNat∧b.toNat≤90 then b+32 else b
theorem lowS (b:UInt8) (h:65≤b.toNat∧b.toNat≤90):wr .u8 ((b.toNat:Int)+32)=((low b).toNat:Int):=by
  have:∀ n:Fin 256,(65≤n.val∧n.val≤90)→wr .u8 ((n.val:Int)+32)=((low (UInt8.ofNat n.val)).toNat:Int):=by decide +kernel
  exact byte_of (p:=fun n b=>(65≤n∧n≤90)→wr .u8 ((n:Int)+32)=((low b).toNat:Int)) this b h
theorem lowI (b:UInt8) (h:65≤b.toNat∧b.toNat≤90):wr .u8 (wr .u8 ((b.toNat:Int)+97)-65)=((low b).toNat:Int):=by
  have:∀ n:Fin 256,(65≤n.val∧n.val≤90)→wr .u8 (wr .u8 ((n.val:Int)+97)-65)=((low (UInt8.ofNat n.val)).toNat:Int):=by decide +kernel
  exact byte_of (p:=fun n b=>(65≤n∧n≤90)→wr .u8 (wr .u8 ((n:Int)+97)-65)=((low b).toNat:Int)) this b h
theorem low_no (b:UInt8) (h:¬ (65≤b.toNat∧b.toNat≤90)):low b=b:=if_neg h
def lower (s:ByteArray):ByteArray:=⟨(s.data.toList.map low).toArray⟩
def lowTo (s:ByteArray) (i:Nat) (x:List Int):Prop:=x.length=s.data.toList.length∧∀ j,x[j]? = (s.data.toList[j]?).map fun b=>if j<i then ((low b).toNat:Int) else (b.toNat:Int)
theorem lowTo_get {s:ByteArray} {i:Nat} {x:List Int} (h:lowTo s i x) (hi:i<s.data.toList.length):x.getD i 0=((s.data.toList[i]).toNat:Int):=by
  rw [List.getD_eq_getElem?_getD,h.2 i,List.getElem?_eq_getElem hi]
  simp
theorem lowTo_set {s:ByteArray} {i:Nat} {x:List Int} (h:lowTo s i x) (hi:i<s.data.toList.length):lowTo s (i+1) (x.set i ((low s.data.toList[i]).toNat:Int)):=by
  refine ⟨by simpa using h.1,fun j=>?_⟩
  rw [List.getElem?_set]
  by_cases e:i=j
  · subst e
    rw [if_pos rfl,if_pos (by rw [h.1];exact hi),List.getElem?_eq_getElem hi]
    simp
  · rw [if_neg e,h.2 j]
    cases s.data.toList[j]? with
    | none=>rfl
    | some b =>
      simp only [Option.map_some]
      by_cases q:j<i
      · rw [if_pos q,if_pos (by omega)]
      · rw [if_neg q,if_neg (by omega)]
theorem lowTo_keep {s:ByteArray} {i:Nat} {x:List Int} (h:lowTo s i x) (hi:i<s.data.toList.length) (hl:low s.data.toList[i]=s.data.toList[i]):lowTo s (i+1) x:=by
  refine ⟨h.1,fun j=>?_⟩
  rw [h.2 j]
  by_cases e:j=i
  · subst e
    rw [List.getElem?_eq_getElem hi]
    simp only [Option.map_some]
    rw [if_neg (by omega),if_pos (by omega),hl]
  · cases s.data.toList[j]? with
    | none=>rfl
    | some b =>
      simp only [Option.map_some]
      by_cases q:j<i
      · rw [if_pos q,if_pos (by omega)]
      · rw [if_neg q,if_neg (by omega)]
theorem lowTo_start (s:ByteArray):lowTo s 0 (bytesOf s):=by
  refine ⟨by simp [bytesOf],fun j=>?_⟩
  unfold bytesOf
  rw [List.getElem?_map]
  cases s.data.toList[j]? <;> simp
theorem lowTo_end {s:ByteArray} {x:List Int} (h:lowTo s s.data.toList.length x):strOf x=lower s:=by
  apply bytes_ext
  unfold strOf lower
  simp only [List.toList_toArray]
  apply List.ext_getElem?
  intro j
  rw [List.getElem?_map,List.getElem?_map,h.2 j]
  cases hj:s.data.toList[j]? with
  | none=>rfl
  | some b =>
    have:j<s.data.toList.length:=(List.getElem?_eq_some_iff.mp hj).1
    simp only [Option.map_some]
    rw [if_pos this,Int.toNat_natCast,UInt8.ofNat_toNat]
theorem lower_S (k:Nat) (s:ByteArray) (hk:s.size<k) (hb:s.size<4611686018427387904):F224 k s=some (lower s):=by
  have hsz:=size_data s
  unfold F224
  refine iter_to (fun i x=>x.1=(i:Int)∧lowTo s i x.2.1) _ s.data.toList.length ?_ ?_ k _ ⟨rfl,lowTo_start s⟩ (by omega)
  · rintro i ⟨xi,xl,_⟩ rec ⟨h1,h2⟩ hi hrec
    simp only at h1 h2
    subst h1
    have hl:=h2.1
    have hg:=lowTo_get h2 hi
    have e1:decide ((i:Int)<(xl.length:Int))=true:=dT (by omega)
    have e2:decide (0≤(i:Int)∧(i:Int)<(xl.length:Int))=true:=dT (by omega)
    have e3:wrap64 ((i:Int)+1)=((i+1:Nat):Int):=by rw [w64 (by omega) (by omega)];simp
    simp only [e1,e2,e3,cond_true,Int.toNat_natCast,hg]
    by_cases g1:65≤(s.data.toList[i]).toNat
    · by_cases g2:(s.data.toList[i]).toNat≤90
      · rw [dT (show (65:Int)≤((s.data.toList[i]).toNat:Int) by omega),dT (show ((s.data.toList[i]).toNat:Int)≤90 by omega),lowS _ ⟨g1,g2⟩]
        exact hrec _ ⟨rfl,lowTo_set h2 hi⟩
      · rw [dT (show (65:Int)≤((s.data.toList[i]).toNat:Int) by omega),dF (show ¬ ((s.data.toList[i]).toNat:Int)≤90 by omega)]
        exact hrec _ ⟨rfl,lowTo_keep h2 hi (low_no _ (by omega))⟩
    · rw [dF (show ¬ (65:Int)≤((s.data.toList[i]).toNat:Int) by omega)]
      exact hrec _ ⟨rfl,lowTo_keep h2 hi (low_no _ (by omega))⟩
  · rintro ⟨xi,xl,_⟩ rec ⟨h1,h2⟩
    simp only at h1 h2
    subst h1
    have hl:=h2.1
    show cond (decide _) _ _=_
    rw [dF (show ¬ ((s.data.toList.length:Nat):Int)<(xl.length:Int) by omega),cond_false]
    show some (strOf xl)=_
    rw [lowTo_end h2]
theorem lower_I (k:Nat) (s:ByteArray) (hk:s.size<k) (hb:s.size<4611686018427387904):F243 k s=some (lower s):=by
  have hsz:=size_data s
  have hbl:(bytesOf s).length=s.data.toList.length:=by simp [bytesOf]
  unfold F243
  refine iter_to (fun i x=>x.1=(i:Int)∧lowTo s i x.2.1) _ s.data.toList.length ?_ ?_ k _ ⟨rfl,lowTo_start s⟩ (by omega)
  · rintro i ⟨xi,xl,_⟩ rec ⟨h1,h2⟩ hi hrec
    simp only at h1 h2
    subst h1
    have hl:=h2.1
    have hg:=lowTo_get h2 hi
    have e0:decide ((i:Int)<((bytesOf s).length:Int))=true:=dT (by omega)
    have e2:decide (0≤(i:Int)∧(i:Int)<(xl.length:Int))=true:=dT (by omega)
    have e3:wrap64 ((i:Int)+1)=((i+1:Nat):Int):=by rw [w64 (by omega) (by omega)];simp
    simp only [e0,e2,e3,cond_true,Int.toNat_natCast,hg]
    by_cases g1:65≤(s.data.toList[i]).toNat
    · by_cases g2:(s.data.toList[i]).toNat≤90
      · rw [dT (show (65:Int)≤((s.data.toList[i]).toNat:Int) by omega),dT (show ((s.data.toList[i]).toNat:Int)≤90 by omega),lowI _ ⟨g1,g2⟩]
        exact hrec _ ⟨rfl,lowTo_set h2 hi⟩
      · rw [dT (show (65:Int)≤((s.data.toList[i]).toNat:Int) by omega),dF (show ¬ ((s.data.toList[i]).toNat:Int)≤90 by omega)]
        exact hrec _ ⟨rfl,lowTo_keep h2 hi (low_no _ (by omega))⟩
    · rw [dF (show ¬ (65:Int)≤((s.data.toList[i]).toNat:Int) by omega)]
      exact hrec _ ⟨rfl,lowTo_keep h2 hi (low_no _ (by omega))⟩
  · rintro ⟨xi,xl,_⟩ rec ⟨h1,h2⟩
    simp only at h1 h2
    subst h1
    show cond (decide _) _ _=_
    rw [dF (show ¬ ((s.data.toList.length:Nat):Int)<((bytesOf s).length:Int) by omega),cond_false]
    show some (strOf xl)=_
    rw [lowTo_end h2]
abbrev blanks:List UInt8:=[32,9]
theorem blankS (k:Nat) (b:UInt8):F274 k (b.toNat:Int)=some (blanks.contains b):=by
  have h:∀ n:Fin 256,F274 0 (n.val:Int)=some (blanks.contains (UInt8.ofNat n.val)):=by decide +kernel
  exact byte_of (p:=fun n b=>F274 0 (n:Int)=some (blanks.contains b)) h b
theorem trimR_snoc (l:List UInt8) (b:UInt8):Lib.trimRightS (l++[b]) blanks=if blanks.contains b then Lib.trimRightS l blanks else l++[b]:=by
  unfold Lib.trimRightS
  rw [List.reverse_append,List.reverse_singleton,List.singleton_append,List.dropWhile_cons]
  by_cases h:blanks.contains b=true
  · rw [if_pos h,if_pos h]
  · rw [if_neg h,if_neg h];simp
theorem trimR_cons (x:UInt8) (l:List UInt8):Lib.trimRightS (x :: l) blanks=if Lib.trimRightS l blanks=[] then (if blanks.contains x then [] else [x]) else x :: Lib.trimRightS l blanks:=by
  unfold Lib.trimRightS
  rw [List.reverse_cons,List.dropWhile_append]
  cases hd:l.reverse.dropWhile (fun x=>blanks.contains x) with
  | nil =>
    rw [if_pos (by rfl),List.reverse_nil,if_pos rfl,List.dropWhile_cons]
    by_cases h:blanks.contains x=true
    · rw [if_pos h,if_pos h];rfl
    · rw [if_neg h,if_neg h];rfl
  | cons y m =>
    rw [if_neg (by simp),if_neg (by simp)]
    simp
theorem trim_comm (l:List UInt8):Lib.trimRightS (Lib.trimLeftS l blanks) blanks=Lib.trimS l blanks:=by
  unfold Lib.trimS
  induction l with
  | nil=>rfl
  | cons x l ih =>
    have hL:∀ y (m:List UInt8),Lib.trimLeftS (y :: m) blanks=if blanks.contains y then Lib.trimLeftS m blanks else y :: m:=fun y m=>by
      unfold Lib.trimLeftS;rw [List.dropWhile_cons]
    rw [hL,trimR_cons]
    by_cases h:blanks.contains x=true
    · rw [if_pos h,if_pos h]
      by_cases h2:Lib.trimRightS l blanks=[]
      · rw [if_pos h2,ih,h2]
      · rw [if_neg h2,hL,if_pos h,ih]
    · rw [if_neg h,if_neg h,trimR_cons,if_neg h]
      by_cases h2:Lib.trimRightS l blanks=[]
      · rw [if_pos h2,hL,if_neg h]
      · rw [if_neg h2,hL,if_neg h]
theorem extract_tail (s:ByteArray):(s.extract 1 s.size).data.toList=s.data.toList.drop 1:=by
  rw [ByteArray.data_extract,Array.toList_extract]
  rw [show s.size=s.data.toList.length from size_data s]
  show List.take (s.data.toList.length-1) (List.drop 1 s.data.toList)=_
  rw [List.take_of_length_le (by rw [List.length_drop];omega)]
theorem extract_init (s:ByteArray):(s.extract 0 (s.size-1)).data.toList=s.data.toList.take (s.data.toList.length-1):=by
  rw [ByteArray.data_extract,Array.toList_extract,show s.size=s.data.toList.length from size_data s]
  simp [List.extract]
def trim (s:ByteArray):ByteArray:=⟨(Lib.trimS s.data.toList blanks).toArray⟩
theorem trimR_loop (k':Nat):∀ (n k:Nat) (s:ByteArray),s.size=n→n<k→n<4611686018427387904 →
    iter (σ:=ByteArray × Unit) (fun rec11 x10=>(bif (decide ((0:Int)<(x10.1.size:Int))) then (bif (decide (0≤(wrap64 ((x10.1.size:Int)-(1:Int)))∧(wrap64 ((x10.1.size:Int)-(1:Int)))<(x10.1.size:Int))) then ((F274 k' (bt x10.1 (wrap64 ((x10.1.size:Int)-(1:Int))))).bind fun r12=>(bif r12 then (bif (decide (0≤(0:Int)∧(0:Int)≤(wrap64 ((x10.1.size:Int)-(1:Int)))∧(wrap64 ((x10.1.size:Int)-(1:Int)))≤(x10.1.size:Int))) then (rec11 ((x10.1.extract (0:Int).toNat (wrap64 ((x10.1.size:Int)-(1:Int))).toNat),())) else none) else some x10.1)) else none) else some x10.1)) k (s,())
      = some ⟨(Lib.trimRightS s.data.toList blanks).toArray⟩
  | n,0,s,_,hk,_=>by omega
  | n,k+1,s,hs,hk,hb=>by
    simp only [iter]
    have hsz:=size_data s
    by_cases h0:s.size=0
    · rw [dF (show ¬ (0:Int)<(s.size:Int) by omega)]
      have:s.data.toList=[]:=List.length_eq_zero_iff.mp (by omega)
      show some s=_
      congr 1
      apply bytes_ext
      rw [this];rfl
    · have hw:wrap64 ((s.size:Int)-1)=((s.size-1:Nat):Int):=by rw [w64 (by omega) (by omega)];omega
      obtain ⟨l,b,hl⟩:∃ l b,s.data.toList=l++[b]:=by
        rcases List.eq_nil_or_concat s.data.toList with h | ⟨l,b,h⟩
        · rw [h,List.length_nil] at hsz;omega
        · exact ⟨l,b,by simpa using h⟩
      have hll:l.length=s.size-1:=by rw [hl,List.length_append,List.length_singleton] at hsz;omega
      have hbt:bt s ((s.size-1:Nat):Int)=(b.toNat:Int):=by
        rw [bt_at s (s.size-1) (by omega)]
        have:s.data.toList[s.size-1]'(by omega)=b:=by
          simp only [hl]
          rw [List.getElem_append_right (by omega)]
          simp [hll]
        rw [this]
      rw [hw,dT (show (0:Int)<(s.size:Int) by omega),dT (show 0≤((s.size-1:Nat):Int)∧((s.size-1:Nat):Int)<(s.size:Int) by omega),hbt,blankS]
      simp only [cond_true,Option.bind_some]
      rw [hl,trimR_snoc]
      cases hc:blanks.contains b with
      | false =>
        simp only [cond_false,Bool.false_eq_true,if_false]
        congr 1
        apply bytes_ext
        rw [hl]
      | true =>
        simp only [cond_true,if_true]
        rw [dT (show 0≤(0:Int)∧(0:Int)≤((s.size-1:Nat):Int)∧((s.size-1:Nat):Int)≤(s.size:Int) by omega),cond_true]
        have hx:(s.extract (0:Int).toNat ((s.size-1:Nat):Int).toNat).data.toList=l:=by
          show (s.extract 0 (s.size-1)).data.toList=l
          rw [extract_init,hl];simp
        have:=trimR_loop k' (n-1) k (s.extract (0:Int).toNat ((s.size-1:Nat):Int).toNat) (by rw [size_data,hx];omega) (by omega) (by omega)
        rw [this,hx]
theorem trim_S (k:Nat) (s:ByteArray) (hk:s.size<k) (hb:s.size<4611686018427387904):F225 k s=some (trim s):=by
  unfold F225
  have key:∀ (n m:Nat) (s:ByteArray),s.size=n→n<m→n<k→n<4611686018427387904 →
      iter (σ:=ByteArray × Unit) (fun rec5 x4=>(bif (decide ((0:Int)<(x4.1.size:Int))) then (bif (decide (0≤(0:Int)∧(0:Int)<(x4.1.size:Int))) then ((F274 k (bt x4.1 (0:Int))).bind fun r6=>(bif r6 then (bif (decide (0≤(1:Int)∧(1:Int)≤(x4.1.size:Int)∧(x4.1.size:Int)≤(x4.1.size:Int))) then (rec5 ((x4.1.extract (1:Int).toNat (x4.1.size:Int).toNat),())) else none) else (some ⟨(Lib.trimRightS x4.1.data.toList blanks).toArray⟩))) else none) else (some ⟨(Lib.trimRightS x4.1.data.toList blanks).toArray⟩))) m (s,())=some (trim s):=by
    intro n m
    induction m generalizing n with
    | zero=>intro s _ h;omega
    | succ m ih =>
      intro s hs hm hk hb
      simp only [iter]
      have hsz:=size_data s
      cases hl:s.data.toList with
      | nil =>
        rw [dF (show ¬ (0:Int)<(s.size:Int) by rw [hl,List.length_nil] at hsz;omega)]
        show some _=_
        unfold trim
        rw [hl];rfl
      | cons b l =>
        have hpos:0<s.size:=by rw [hl,List.length_cons] at hsz;omega
        have hbt:bt s (0:Int)=(b.toNat:Int):=by
          have:=bt_at s 0 (by omega)
          rw [show ((0:Nat):Int)=0 from rfl] at this
          rw [this]
          simp only [hl,List.getElem_cons_zero]
        rw [dT (show (0:Int)<(s.size:Int) by omega),dT (show 0≤(0:Int)∧(0:Int)<(s.size:Int) by omega),hbt,blankS]
        simp only [cond_true,Option.bind_some]
        have ht:trim s=⟨(Lib.trimRightS (Lib.trimLeftS s.data.toList blanks) blanks).toArray⟩:=by unfold trim;rw [trim_comm]
        have hL:Lib.trimLeftS (b :: l) blanks=if blanks.contains b then Lib.trimLeftS l blanks else b :: l:=by
          unfold Lib.trimLeftS;rw [List.dropWhile_cons]
        cases hc:blanks.contains b with
        | false =>
          simp only [cond_false]
          rw [ht,hl,hL,hc];rfl
        | true =>
          simp only [cond_true]
          rw [dT (show 0≤(1:Int)∧(1:Int)≤(s.size:Int)∧(s.size:Int)≤(s.size:Int) by omega),cond_true]
          have hx:(s.extract (1:Int).toNat (s.size:Int).toNat).data.toList=l:=by
            show (s.extract 1 s.size).data.toList=l
            rw [extract_tail,hl];rfl
          have:=ih (n-1) (s.extract (1:Int).toNat (s.size:Int).toNat) (by rw [size_data,hx];rw [hl,List.length_cons] at hsz;omega) (by omega) (by omega) (by omega)
          rw [this,ht,hl,hL,hc,if_pos rfl]
          unfold trim
          rw [hx,trim_comm]
  refine Eq.trans ?_ (key s.size k s rfl hk hk hb)
  have go:∀ (m:Nat) (t:ByteArray),t.size<k→t.size<4611686018427387904 →
      iter (σ:=ByteArray × Unit) (fun rec5 x4=>(bif (decide ((0:Int)<(x4.1.size:Int))) then (bif (decide (0≤(0:Int)∧(0:Int)<(x4.1.size:Int))) then ((F274 k (bt x4.1 (0:Int))).bind fun r6=>(bif r6 then (bif (decide (0≤(1:Int)∧(1:Int)≤(x4.1.size:Int)∧(x4.1.size:Int)≤(x4.1.size:Int))) then (rec5 ((x4.1.extract (1:Int).toNat (x4.1.size:Int).toNat),())) else none) else (iter (σ:=ByteArray × Unit) (fun rec11 x10=>(bif (decide ((0:Int)<(x10.1.size:Int))) then (bif (decide (0≤(wrap64 ((x10.1.size:Int)-(1:Int)))∧(wrap64 ((x10.1.size:Int)-(1:Int)))<(x10.1.size:Int))) then ((F274 k (bt x10.1 (wrap64 ((x10.1.size:Int)-(1:Int))))).bind fun r12=>(bif r12 then (bif (decide (0≤(0:Int)∧(0:Int)≤(wrap64 ((x10.1.size:Int)-(1:Int)))∧(wrap64 ((x10.1.size:Int)-(1:Int)))≤(x10.1.size:Int))) then (rec11 ((x10.1.extract (0:Int).toNat (wrap64 ((x10.1.size:Int)-(1:Int))).toNat),())) else none) else some x10.1)) else none) else some x10.1)) k (x4.1,())))) else none) else (iter (σ:=ByteArray × Unit) (fun rec17 x16=>(bif (decide ((0:Int)<(x16.1.size:Int))) then (bif (decide (0≤(wrap64 ((x16.1.size:Int)-(1:Int)))∧(wrap64 ((x16.1.size:Int)-(1:Int)))<(x16.1.size:Int))) then ((F274 k (bt x16.1 (wrap64 ((x16.1.size:Int)-(1:Int))))).bind fun r18=>(bif r18 then (bif (decide (0≤(0:Int)∧(0:Int)≤(wrap64 ((x16.1.size:Int)-(1:Int)))∧(wrap64 ((x16.1.size:Int)-(1:Int)))≤(x16.1.size:Int))) then (rec17 ((x16.1.extract (0:Int).toNat (wrap64 ((x16.1.size:Int)-(1:Int))).toNat),())) else none) else some x16.1)) else none) else some x16.1)) k (x4.1,())))) m (t,())
      = iter (σ:=ByteArray × Unit) (fun rec5 x4=>(bif (decide ((0:Int)<(x4.1.size:Int))) then (bif (decide (0≤(0:Int)∧(0:Int)<(x4.1.size:Int))) then ((F274 k (bt x4.1 (0:Int))).bind fun r6=>(bif r6 then (bif (decide (0≤(1:Int)∧(1:Int)≤(x4.1.size:Int)∧(x4.1.size:Int)≤(x4.1.size:Int))) then (rec5 ((x4.1.extract (1:Int).toNat (x4.1.size:Int).toNat),())) else none) else (some ⟨(Lib.trimRightS x4.1.data.toList blanks).toArray⟩))) else none) else (some ⟨(Lib.trimRightS x4.1.data.toList blanks).toArray⟩))) m (t,()):=by
    intro m
    induction m with
    | zero=>intro t _ _;rfl
    | succ m ih =>
      intro t ht hb
      simp only [iter]
      rw [trimR_loop k t.size k t rfl ht hb]
      have hx:(t.extract (1:Int).toNat (t.size:Int).toNat).size≤t.size:=by
        show (t.extract 1 t.size).size≤t.size
        rw [ByteArray.size_extract];omega
      rw [ih _ (by omega) (by omega)]
  exact go k s hk hb
theorem trim_I (k:Nat) (s:ByteArray) (hb:s.size<4611686018427387904):F284 k s=some (trim s):=by
  unfold F284 semTrim
  have h1:decide (s.size≤9223372036854775807∧(ByteArray.mk #[32,9]).size<4294967281)=true:=dT ⟨by omega,by decide⟩
  have h2:(ByteArray.mk #[32,9]).data.toList.all (fun b=>decide (b.toNat<128))=true:=by decide
  rw [h1,h2]
  rfl
def valByte (b:UInt8):Bool:=b == 9 || !(decide (b.toNat<32)||decide (b.toNat=127))
def isValue (s:ByteArray):Bool:=s.data.toList.all valByte&&decide (trim s=s)
theorem value_S (k:Nat) (s:ByteArray) (hk:s.size<k) (hb:s.size<4611686018427387904):F276 k s=some (isValue s):=by
  unfold F276
  refine (iter_bytes s valByte (some false) (some (decide (trim s=s))) (fun i h rec e1 e2 e3 e4=>?_) (fun rec e=>?_) k hk hb).trans ?_
  · simp only [e1,e2,e3,e4,cond_true]
    have hv:valByte s.data.toList[i]=(decide (((s.data.toList[i]).toNat:Int)=9) || !(decide (((s.data.toList[i]).toNat:Int)<32)||decide (((s.data.toList[i]).toNat:Int)=127))):=by
      have:∀ n:Fin 256,valByte (UInt8.ofNat n.val)=(decide ((n.val:Int)=9) || !(decide ((n.val:Int)<32)||decide ((n.val:Int)=127))):=by decide +kernel
      exact byte_of (p:=fun n b=>valByte b=(decide ((n:Int)=9) || !(decide ((n:Int)<32)||decide ((n:Int)=127)))) this _
    rw [hv]
    cases decide (((s.data.toList[i]).toNat:Int)=9) <;> cases decide (((s.data.toList[i]).toNat:Int)<32) <;> cases decide (((s.data.toList[i]).toNat:Int)=127) <;> rfl
  · simp only [e,cond_false,trim_S k s hk hb,Option.bind_some]
  · unfold isValue
    cases s.data.toList.all valByte <;> simp
theorem value_I (k:Nat) (s:ByteArray) (hk:s.size<k) (hb:s.size<4611686018427387904):F315 k s=some (isValue s):=by
  unfold F315
  refine (iter_bytes s valByte (some false) (some (decide (trim s=s))) (fun i h rec e1 e2 e3 e4=>?_) (fun rec e=>?_) k hk hb).trans ?_
  · simp only [e1,e2,e3,e4,cond_true]
    have hv:valByte s.data.toList[i]=(decide (((s.data.toList[i]).toNat:Int)=9) || !(decide (((s.data.toList[i]).toNat:Int)<32)||decide (((s.data.toList[i]).toNat:Int)=127))):=by
      have:∀ n:Fin 256,valByte (UInt8.ofNat n.val)=(decide ((n.val:Int)=9) || !(decide ((n.val:Int)<32)||decide ((n.val:Int)=127))):=by decide +kernel
      exact byte_of (p:=fun n b=>valByte b=(decide ((n:Int)=9) || !(decide ((n:Int)<32)||decide ((n:Int)=127)))) this _
    rw [hv]
    by_cases h9:((s.data.toList[i]).toNat:Int)=9
    · rw [dT h9,dT (show ((s.data.toList[i]).toNat:Int)<32 by omega),dF (show ¬ ((s.data.toList[i]).toNat:Int)=127 by omega)];rfl
    · rw [dF h9]
      cases decide (((s.data.toList[i]).toNat:Int)<32) <;> cases decide (((s.data.toList[i]).toNat:Int)=127) <;> rfl
  · simp only [e,cond_false,trim_I k s hb,Option.bind_some]
  · unfold isValue
    cases s.data.toList.all valByte <;> simp
end Go.Proofs.YtigbabjhcihmaaaGreatDoor.Fns
