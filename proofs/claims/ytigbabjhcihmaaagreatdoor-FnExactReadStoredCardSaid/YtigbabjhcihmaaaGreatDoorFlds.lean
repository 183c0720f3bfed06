/- Fields: which may stand in a message. The program's tests and the reference's are one. -/
import Derived.Test.YtigbabjhcihmaaaGreatDoorChars
import Derived.Test.YtigbabjhcihmaaaGreatDoorFieldGet
namespace Go.Proofs.YtigbabjhcihmaaaGreatDoor.Fns
open Go Go.RowKit Go.Proofs Go.Proofs.YtigbabjhcihmaaaGreatDoor.Ev Go.Proofs.YtigbabjhcihmaaaGreatDoor.Pl
set_option linter.unusedVariables false
set_option linter.unusedSimpArgs false
set_option maxRecDepth 100000
def fOk (f:D0):Bool:=isTok f.1&&decide (f.1=lower f.1)&&decide ((f.1.size:Int)≤24)&&isValue f.2&&decide ((f.2.size:Int)≤60)
theorem field_cost {f:D0}:cost U0 f=f.1.size+f.2.size:=by
  simp only [cost]
theorem fieldOk_S (k:Nat) (hk:fuel<k) (f:D0) (hc:cost U0 f≤fuel):F226 k f=some (fOk f):=by
  have h:=field_cost (f:=f)
  have hc':cost U0 f≤2097152:=hc
  have hk':2097152<k:=hk
  unfold F226 fOk
  rw [tokText_S k f.1 (by omega) (by omega),lower_S k f.1 (by omega) (by omega),value_S k f.2 (by omega) (by omega)]
  simp only [Option.bind_some]
  cases isTok f.1 <;> cases decide (f.1=lower f.1) <;> cases decide ((f.1.size:Int)≤24) <;> cases isValue f.2 <;> rfl
theorem fieldOk_I (k:Nat) (hk:fuel<k) (f:D0) (hc:cost U0 f≤fuel):F285 k f=some (fOk f):=by
  have h:=field_cost (f:=f)
  have hc':cost U0 f≤2097152:=hc
  have hk':2097152<k:=hk
  unfold F285 fOk
  rw [tokText_I k f.1 (by omega) (by omega),lower_I k f.1 (by omega) (by omega),value_I k f.2 (by omega) (by omega)]
  simp only [Option.bind_some]
  rw [show decide (lower f.1=f.1)=decide (f.1=lower f.1) by rw [decide_eq_decide];exact eq_comm]
  cases isTok f.1 <;> cases decide (f.1=lower f.1) <;> cases decide ((f.1.size:Int)≤24) <;> cases isValue f.2 <;> rfl
def fieldsOk (l:List D0):Bool:=l.all fOk&&decide ((l.length:Int)≤12)
theorem fieldsOk_S (k:Nat) (hk:fuel<k) (l:List D0) (hc:cost (.slice U0) l≤fuel):F222 k l=some (fieldsOk l):=by
  have hlen:l.length≤2097152:=Nat.le_trans (cost_len (e:=U0) l) hc
  have hk':2097152<k:=hk
  unfold F222
  refine (iter_list l fOk (some false) (some (decide ((l.length:Int)≤12))) (fun i hi rec=>?_) (fun rec=>?_) k (by omega)).trans ?_
  · simp only [Int.toNat_natCast]
    rw [dT (show (i:Int)<(l.length:Int) by omega),dT (show 0≤(i:Int)∧(i:Int)<(l.length:Int) by omega),getD_lt hi,fieldOk_S k hk l[i] (Nat.le_trans (cost_mem (List.getElem_mem hi)) hc),w64 (n:=(i:Int)+1) (by omega) (by omega)]
    cases fOk l[i] <;> rfl
  · simp only
    rw [dF (show ¬ (l.length:Int)<(l.length:Int) by omega)];rfl
  · unfold fieldsOk
    cases l.all fOk <;> rfl
theorem fieldsOk_I (k:Nat) (hk:fuel<k) (l:List D0) (hc:cost (.slice U0) l≤fuel):F291 k l=some (fieldsOk l):=by
  have hlen:l.length≤2097152:=Nat.le_trans (cost_len (e:=U0) l) hc
  have hk':2097152<k:=hk
  unfold F291 fieldsOk
  cases decide ((l.length:Int)≤12) with
  | false=>simp only [cond_false,Bool.and_false]
  | true =>
    simp only [cond_true,Bool.and_true]
    refine (iter_list l fOk (some false) (some true) (fun i hi rec=>?_) (fun rec=>?_) k (by omega)).trans ?_
    · simp only [Int.toNat_natCast]
      unfold F324
      rw [dT (show (i:Int)<(l.length:Int) by omega),dT (show 0≤(i:Int)∧(i:Int)<(l.length:Int) by omega),getD_lt hi,fieldOk_I k hk l[i] (Nat.le_trans (cost_mem (List.getElem_mem hi)) hc),w64 (n:=(i:Int)+1) (by omega) (by omega),dT (show (0:Int)≤(i:Int) by omega)]
      cases fOk l[i] <;> rfl
    · simp only
      rw [dF (show ¬ (l.length:Int)<(l.length:Int) by omega)];rfl
    · cases l.all fOk <;> rfl
abbrev nTE:ByteArray:=ByteArray.mk #[116,114,97,110,115,102,101,114,45,101,110,99,111,100,105,110,103]
abbrev nCL:ByteArray:=ByteArray.mk #[99,111,110,116,101,110,116,45,108,101,110,103,116,104]
def hasN (name:ByteArray) (l:List D0):Bool:=decide (0<(valsOf name l).length)
def plainF (l:List D0):Bool:=!hasN nTE l && !hasN nCL l&&decide ((l.length:Int)<12)&&fieldsOk l
theorem big_fuel {n:Nat} (h:n≤big):n≤fuel:=Nat.le_trans h (by decide)
theorem plain_S (k:Nat) (hk:fuel<k) (l:List D0) (hc:cost (.slice U0) l≤big):F227 k l=some (plainF l):=by
  unfold F227 plainF
  rw [getS k hk l _ hc,getS k hk l _ hc,fieldsOk_S k hk l (big_fuel hc)]
  simp only [Option.bind_some]
  show cond (!hasN nTE l) (cond (!hasN nCL l) _ _) _=_
  cases hasN nTE l <;> cases hasN nCL l <;> cases decide ((l.length:Int)<12) <;> rfl
theorem has_I (k:Nat) (hk:fuel<k) (l:List D0) (name:ByteArray) (hc:cost (.slice U0) l≤big):F325 k l name=some (hasN name l):=by
  unfold F325
  rw [getI k hk l _ hc]
  rfl
theorem body_I (k:Nat) (hk:fuel<k) (l:List D0) (hc:cost (.slice U0) l≤big):F292 k l=some (hasN nTE l||hasN nCL l):=by
  unfold F292
  rw [has_I k hk l _ hc,has_I k hk l _ hc]
  simp only [Option.bind_some]
  show cond (hasN nCL l) _ (some (hasN nTE l))=_
  cases hasN nTE l <;> cases hasN nCL l <;> rfl
theorem plain_I (k:Nat) (hk:fuel<k) (l:List D0) (hc:cost (.slice U0) l≤big):F241 k l=some (plainF l):=by
  unfold F241 plainF
  rw [fieldsOk_I k hk l (big_fuel hc),body_I k hk l hc]
  simp only [Option.bind_some]
  cases hasN nTE l <;> cases hasN nCL l <;> cases decide ((l.length:Int)<12) <;> cases fieldsOk l <;> rfl
def uriByte (b:UInt8):Bool:=!decide (b.toNat≤32) && !decide (127≤b.toNat)
def uriOk (s:ByteArray):Bool:=s.data.toList.all uriByte&&(decide (1≤s.size)&&decide (s.size≤20)&&decide (bt s (0:Int)=47))
theorem uri_S (k:Nat) (s:ByteArray) (hk:s.size<k) (hb:s.size<4611686018427387904):F112 k s=some (uriOk s):=by
  unfold F112 F166
  refine (iter_bytes s uriByte (some false) (some (decide (1≤s.size)&&decide (s.size≤20)&&decide (bt s (0:Int)=47))) (fun i h rec e1 e2 e3 e4=>?_) (fun rec e=>?_) k hk hb).trans ?_
  · simp only [e1,e2,e3,e4,cond_true]
    unfold uriByte
    rw [show decide (((s.data.toList[i]).toNat:Int)≤32)=decide ((s.data.toList[i]).toNat≤32) by rw [decide_eq_decide];omega,show decide ((127:Int)≤((s.data.toList[i]).toNat:Int))=decide (127≤(s.data.toList[i]).toNat) by rw [decide_eq_decide];omega]
    cases decide ((s.data.toList[i]).toNat≤32) <;> cases decide (127≤(s.data.toList[i]).toNat) <;> rfl
  · simp only [e,cond_false]
    by_cases h1:1≤s.size
    · rw [dT h1,dT (show (1:Int)≤(s.size:Int) by omega),dT (show 0≤(0:Int)∧(0:Int)<(s.size:Int) by omega),show decide ((s.size:Int)≤20)=decide (s.size≤20) by rw [decide_eq_decide];omega]
      cases decide (s.size≤20) <;> rfl
    · rw [dF h1,dF (show ¬ (1:Int)≤(s.size:Int) by omega)];rfl
  · unfold uriOk
    cases s.data.toList.all uriByte <;> rfl
theorem uri_I (k:Nat) (s:ByteArray) (hk:s.size<k) (hb:s.size<4611686018427387904):F128 k s=some (uriOk s):=by
  unfold F128 F176
  refine (iter_bytes s uriByte (some false) (some (decide (1≤s.size)&&decide (s.size≤20)&&decide (bt s (0:Int)=47))) (fun i h rec e1 e2 e3 e4=>?_) (fun rec e=>?_) k hk hb).trans ?_
  · simp only [e1,e2,e3,e4,cond_true]
    unfold uriByte
    rw [show decide (((s.data.toList[i]).toNat:Int)<33)=decide ((s.data.toList[i]).toNat≤32) by rw [decide_eq_decide];omega,show decide ((126:Int)<((s.data.toList[i]).toNat:Int))=decide (127≤(s.data.toList[i]).toNat) by rw [decide_eq_decide];omega]
    cases decide ((s.data.toList[i]).toNat≤32) <;> cases decide (127≤(s.data.toList[i]).toNat) <;> rfl
  · simp only [e,cond_false]
    by_cases h1:1≤s.size
    · rw [dT h1,dT (show (1:Int)≤(s.size:Int) by omega),dT (show 0≤(0:Int)∧(0:Int)<(s.size:Int) by omega),show decide ((s.size:Int)≤20)=decide (s.size≤20) by rw [decide_eq_decide];omega]
      cases decide (s.size≤20) <;> rfl
    · rw [dF h1,dF (show ¬ (1:Int)≤(s.size:Int) by omega)];rfl
  · unfold uriOk
    cases s.data.toList.all uriByte <;> rfl
end Go.Proofs.YtigbabjhcihmaaaGreatDoor.Fns
