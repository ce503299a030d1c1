/- The law FnAllRoom holds: whatever its arguments, the call returns true and leaves them as they were. No condition. -/
import Derived.Test.YticpmdigfdpmfaaDra
import Derived.Test.YticpmdigfdpmfaaWays
import Derived.Test.YticpmdigfdpmfaaLac
import Derived.Test.YticpmdigfdpmfaaLab
import Derived.Test.YticpmdigfdpmfaaIs
import Derived.Test.YticpmdigfdpmfaaOrder
import Derived.Test.YticpmdigfdpmfaaRows
set_option linter.unusedVariables false
set_option linter.unusedSimpArgs false
set_option linter.unusedSectionVars false
namespace Go.Vs
open Go.IntWalk
theorem tc (a:List Trip) (ha:a.length≤1048576):∀(l:List Trip) (k:Nat),a.drop k=l→dE G.real TE.real a l (k:Int)=some (.out ())
 |[],k,_=>by rw[dE]
 |z::l,k,h=>by
  have hk:k<a.length:=by
   have:=congrArg List.length h
   simp at this;omega
  have hz:a[k]?=some z:=by
   have:(a.drop k)[0]?=some z:=by rw[h];rfl
   simpa using this
  have h3:a.drop (k+1)=l:=by
   have:=congrArg List.tail h
   simpa using this
  rw[dE]
  simp only[cw,Int.toNat_natCast]
  rw[ar hz]
  simp only[gR,AZ,List.all_cons,List.all_nil,decide_true,id,Bool.and_self,fr,bG]
  rw[w64 (by omega) (by omega),show(k:Int)+1=((k+1:Nat):Int) by omega]
  exact tc a ha l (k+1) h3
theorem uS (a:List Trip) (ha:a.length≤1048576):gO G.real TE.real a a=some true:=by
 unfold gO
 simp only[gR,decide_true,fr]
 rw[show(0:Int)=((0:Nat):Int) from rfl,tc a ha a 0 rfl]
 rfl
theorem ve:∀l:List Leg,(bc G.real TE.real l=.ret true)∨(bc G.real TE.real l=.out ()∧∀z∈l,1≤z.Room)
 |[]=>.inr ⟨by rw[bc],by simp⟩
 |z::l=>by
  rw[bc,df,am]
  split
  ·exact .inl rfl
  ·rcases ve l with h|⟨h1,h2⟩
   ·exact .inl h
   ·refine .inr ⟨h1,fun y hy=>?_⟩
    rcases List.mem_cons.1 hy with rfl|hy
    ·omega
    ·exact h2 y hy
theorem xC {n:Network} (hn:NetOk n) (h:∀z∈n.Legs,1≤z.Room):fF n [] [] 1=fN n:=by
 funext l a
 unfold fF fN
 congr 1
 funext d
 unfold pF
 cases hp:pN n l a d with
 |false=>rfl
 |true=>
  unfold pN at hp
  rw[Bool.and_eq_true] at hp
  have hlen:=hn.len
  obtain⟨r1,r2,_⟩:=ee (n:=n) (by omega) hp.1
  have h1:=h _ (kQ r1 r2)
  have h2:=(hn.legs _ (kQ r1 r2)).room
  have e:rmN n [] l d=(dW n l).Room:=by
   unfold rmN
   rw[show cI G.real TE.real [] ⟨l,d⟩=0 from rfl,ir,w64 (by omega) (by omega)];omega
  rw[e,show d5 G.real TE.real [] ⟨l,d⟩=false from rfl,decide_eq_true h1]
  rfl
theorem xF {n:Network} (ht:n.tot≤1048576) (hroom:∀z∈n.Legs,1≤z.Room) (f to:ByteArray) (w:Int):eG G.real TE.real n f to w=dI G.real TE.real n [] [] f to w 1:=by
 have hbk:bkB n []=jx n:=by
  unfold bkB
  cases jx n with
  |false=>rfl
  |true=>rfl
 have h0:([]:List Booking).length≤1048576:=Nat.zero_le _
 unfold eG dI iY lG
 rw[ym ht,A9 ht [] h0,ag,ag,hbk]
 cases hb:jx n with
 |false=>rw[oa,oa]
 |true=>
  have hn:=rt ht hb
  have hok:FOk n (fN n):=⟨hn,(qe hn).ok⟩
  obtain⟨q,_,q2⟩:=vp ht hb hok f to w
  have hf2:Find (.I_freeOf_1 n [] [] 1) n (fN n):=by
   have:=fo hn [] [] 1
   rw[xC hn hroom] at this
   exact this
  rw[fr,fr,df,am,if_neg (by omega),aZ,aZ,q2 _ (qe hn),q2 _ hf2]
theorem sr {n:Network} (ht:n.tot≤1048576) (f to:ByteArray) (w:Int):
 (lr (bc G.real TE.real n.Legs) fun _=>cl (dI G.real TE.real n [] [] f to w 1) fun x3=>cl (en G.real TE.real n [] [] f to w 1) fun x4=>
  br x3.2 (br x4.2 (cl (eG G.real TE.real n f to w) fun x5=>br x5.2 (cl (gO G.real TE.real x3.1 x5.1) fun x6=>some x6) (some false)) (some false))
   (br x4.2 (some false) (cl (eG G.real TE.real n f to w) fun x7=>br x7.2 (some false) (cl (gO G.real TE.real x3.1 x7.1) fun x8=>some x8))))=some true:=by
 rcases ve n.Legs with hr|⟨hr,hroom⟩
 ·rw[hr];rfl
 ·rw[hr,iI,xF ht hroom]
  have h0:([]:List Booking).length≤1048576:=Nat.zero_le _
  obtain⟨r,r1,r2,r3⟩:=zD ht [] h0 [] f to w 1
  rw[r2,r1]
  simp only[ag]
  cases hr2:r.2 with
  |true=>
   simp only[fr]
   rw[uS _ (by omega),ag]
  |false=>
   simp only[oa]
   rw[uS _ (by omega),ag]
theorem tU (a:List Int) (_:a.length≤9223372036854775807∧∀x∈a,0≤x∧x≤255):fK G.real TE.real a=some true:=by
 unfold fK
 rw[aZ,Bl,am]
 split
 ·rfl
 ·obtain⟨⟨n,l0,c0,f,to,w,wt⟩,e,hW,_⟩:=nr a (by omega)
  have hW:NetW n:=hW
  rw[e,ag,aZ,aZ]
  exact sr (sV hW) f to w
end Go.Vs
namespace Go.Vs
theorem law3 (a:List Int) (h:a.length≤9223372036854775807∧∀x∈a,0≤x∧x≤255):fK G.real TE.real a=some true:=tU a h
end Go.Vs
namespace Go.Proofs.Yticpmdigfdpmfaa.fnAllRoom
open Go.Vs Go.RowKit Go.WideShapes Go.ChangeShapes
set_option linter.unusedVariables false
set_option maxRecDepth 100000
theorem Ba (as0:List A) (h:qS Try.prog 8 Try.f3.params.toList as0):Go.Vs.Fn Try.prog 3 as0 (.c (.r (.v (.bool true)))):=by
 rw[Try.params3] at h
 obtain⟨x0,xs0,rfl,⟨ts0,t0,q0⟩,h⟩:=h
 rw[show kp Try.prog 8 22=some [.sl [.int .u8]] from by kernel_rfl] at t0
 cases t0
 rw[show vZ Try.prog 22=false from by kernel_rfl] at q0
 obtain⟨r0,rfl,q0⟩:=q0
 obtain⟨_,_,e0,q0,e0_⟩:=uH q0
 cases e0
 obtain⟨b0,rfl,l0,q0⟩:=Bp q0
 obtain⟨a0,rfl,p0⟩:=uQ Be b0 q0
 rw[List.length_map] at l0
 have h:=h
 subst h
 exact pG rfl rfl (law3 _ ⟨l0,p0⟩)
theorem lifted (os:Os) (started:os.Started) (H:Type) (enc:TypeId×Value→H):
 ReturnsInHanded {} Try.checked os 3 .any (Rows.fnAllRoomSpec.pre6 enc Try.prog Try.f3 Rows.fnAllRoomRow.domain false) (Rows.fnAllRoomSpec.post enc Try.prog Try.f3 false true false false):=by
 refine returnsInHanded_of_change (C:=Try.checked) (s:=Rows.fnAllRoomSpec) (by kernel_rfl) started (by kernel_rfl) Try.func3
  (ChangeSpec.witness6 (enc:=enc) (C:=Try.checked) false ⟨#[],#[.slice none 0 0],[]⟩ 8 (by kernel_rfl) (by kernel_rfl) (by kernel_rfl) (by kernel_rfl)) ?_
 intro W base args ds gs before hval hW _ _
 refine q9 (n:=8) (tb:=4) rfl rfl Try.underlying4 (by kernel_rfl) (by kernel_rfl) (fun ds hl=>?_) Ba W base args ds gs before hval hW
 rw[Try.params3] at hl
 match ds,hl with
 |[d0],_=>exact⟨rfl,rfl,rfl⟩
theorem A5:joinedFacts Try.prog 3 Try.f3 Rows.fnAllRoomSpec Rows.fnAllRoomRow=true:=by
 unfold joinedFacts
 exact(cv (cv (cv (cv (cv (cv (cv (cv (cv (cv (cv (cv (cv (cv (cv (cv (cv (cv (cv (cv (cv (cv (cv (cv (cv (cv (cv (cv (cv (cv (cv (by kernel_rfl) yW) zd) (by kernel_rfl)) (by kernel_rfl)) (by kernel_rfl)) (by kernel_rfl)) (by kernel_rfl)) (by kernel_rfl)) (by kernel_rfl)) (by kernel_rfl)) (by kernel_rfl)) (by kernel_rfl)) (by kernel_rfl)) (by kernel_rfl)) (by kernel_rfl)) (by kernel_rfl)) (by kernel_rfl)) (by kernel_rfl)) (by kernel_rfl)) (by kernel_rfl)) (by kernel_rfl)) (by kernel_rfl)) (by kernel_rfl)) ya) xp) (by rw[yp];rfl)) (by rw[zi];rfl)) (by kernel_rfl)) (by kernel_rfl)) (by kernel_rfl)) (by kernel_rfl))
theorem holds:Rows.FnAllRoomSaid:=
 OpenClaim.holds_of_wide 3 Try.f3 rfl rfl rfl rfl rfl rfl rfl ⟨rfl,rfl,rfl,rfl,rfl⟩ rfl rfl rfl rfl rfl (by kernel_rfl) Try.func3 A5
  (of_decide_eq_true (by kernel_rfl)) (by unfold Func.isWrapper;first|(rw[if_pos (by decide+kernel)];kernel_rfl)|(rw[if_neg (by decide+kernel)];exact⟨rfl,rfl⟩))
  (fun os started H enc _=>lifted os started H enc)
end Go.Proofs.Yticpmdigfdpmfaa.fnAllRoom
