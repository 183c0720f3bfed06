/- A function of one byte, by its contract. -/
import Derived.Test.YtnohkcklakipoaaGreatDoorTokB0
import Derived.Test.YtnohkcklakipoaaGreatDoorTokB1
import Derived.Test.YtnohkcklakipoaaGreatDoorTokB2
import Derived.Test.YtnohkcklakipoaaGreatDoorTokB3
namespace Go.Proofs.YtnohkcklakipoaaGreatDoor.Tok
open Go Go.RowKit Go.Proofs Go.Proofs.YtnohkcklakipoaaGreatDoor.Ev
theorem each (k n:Nat) (h:n<256):V113 k n=F113 k (n:Int):=by
  have hm:∀ i,n / 16=i→n∈List.range' (16*i) 16:=fun i hi=>by rw [List.mem_range'_1];omega
  have:n / 16=0∨n / 16=1∨n / 16=2∨n / 16=3∨n / 16=4∨n / 16=5∨n / 16=6∨n / 16=7∨n / 16=8∨n / 16=9∨n / 16=10∨n / 16=11∨n / 16=12∨n / 16=13∨n / 16=14∨n / 16=15:=by omega
  rcases this with h | h | h | h | h | h | h | h | h | h | h | h | h | h | h | h
  · exact eq_of_beq (List.all_eq_true.mp (congrFun b0 k) n (hm 0 h))
  · exact eq_of_beq (List.all_eq_true.mp (congrFun b1 k) n (hm 1 h))
  · exact eq_of_beq (List.all_eq_true.mp (congrFun b2 k) n (hm 2 h))
  · exact eq_of_beq (List.all_eq_true.mp (congrFun b3 k) n (hm 3 h))
  · exact eq_of_beq (List.all_eq_true.mp (congrFun b4 k) n (hm 4 h))
  · exact eq_of_beq (List.all_eq_true.mp (congrFun b5 k) n (hm 5 h))
  · exact eq_of_beq (List.all_eq_true.mp (congrFun b6 k) n (hm 6 h))
  · exact eq_of_beq (List.all_eq_true.mp (congrFun b7 k) n (hm 7 h))
  · exact eq_of_beq (List.all_eq_true.mp (congrFun b8 k) n (hm 8 h))
  · exact eq_of_beq (List.all_eq_true.mp (congrFun b9 k) n (hm 9 h))
  · exact eq_of_beq (List.all_eq_true.mp (congrFun b10 k) n (hm 10 h))
  · exact eq_of_beq (List.all_eq_true.mp (congrFun b11 k) n (hm 11 h))
  · exact eq_of_beq (List.all_eq_true.mp (congrFun b12 k) n (hm 12 h))
  · exact eq_of_beq (List.all_eq_true.mp (congrFun b13 k) n (hm 13 h))
  · exact eq_of_beq (List.all_eq_true.mp (congrFun b14 k) n (hm 14 h))
  · exact eq_of_beq (List.all_eq_true.mp (congrFun b15 k) n (hm 15 h))
theorem ok113 {G:World→Prop} (hG:Lasts G) (k:Nat):(S113 k).ok Tryz.prog G 113 :=
  evFn_ok (Tabs.good (T_ok (fun _ _=>⟨[],[],[],false⟩) k) hG (calls:=[]) trivial) 5 rfl (S113 k) fun x r h=>by
    have h:G113 k x.1=some r:=h
    unfold G113 at h
    obtain ⟨h1,h2⟩:=cond_none h
    have h1:=of_decide_eq_true h1
    have h0:(0:Int)≤x.1:=h1.1
    have h3:(x.1:Int)<256:=h1.2
    obtain ⟨m,hm⟩:∃ m:Nat,(x.1:Int)=(m:Int):=⟨Int.toNat x.1,(Int.toNat_of_nonneg h0).symm⟩
    have hx:x=((m:Int),()):=Prod.ext hm rfl
    have hlt:m<256:=by rw [hm] at h3;exact Int.ofNat_lt.mp h3
    have hv:=each k m hlt
    rw [hm] at h2
    rw [hx]
    exact hv.trans h2
end Go.Proofs.YtnohkcklakipoaaGreatDoor.Tok
