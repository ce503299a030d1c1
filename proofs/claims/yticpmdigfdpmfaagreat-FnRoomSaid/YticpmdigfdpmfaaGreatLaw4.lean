/- The law FnRoom holds: whatever its arguments, the call returns true and leaves them as they were. No condition. -/
import Derived.Test.YticpmdigfdpmfaaGreatVf
import Derived.Test.YticpmdigfdpmfaaGreatLaa
import Derived.Test.YticpmdigfdpmfaaGreatBob
import Derived.Test.YticpmdigfdpmfaaGreatDrb
import Derived.Test.YticpmdigfdpmfaaGreatLad
import Derived.Test.YticpmdigfdpmfaaGreatLac
import Derived.Test.YticpmdigfdpmfaaGreatLab
import Derived.Test.YticpmdigfdpmfaaGreatIs
import Derived.Test.YticpmdigfdpmfaaGreatOrder
import Derived.Test.YticpmdigfdpmfaaGreatRows
set_option linter.unusedVariables false
set_option linter.unusedSimpArgs false
set_option linter.unusedSectionVars false
namespace Go.Vs
open Go.IntWalk
theorem EO (a:List Int):sB G.real TE.real a=decide (4096<a.length):=by
 have h:sB G.real TE.real a=decide ((4096:Int)<(a.length:Int)):=by
  unfold sB
  simp only[BT,cP]
 rw[h,decide_eq_decide]
 omega
end Go.Vs
namespace Go.Vs
open Go.IntWalk
theorem yb {n:Network} (ht:n.tot≤1048576) (x2:Network×(List Booking)×(List Trip)×ByteArray×ByteArray×Int×Int) (e1:x2.1=n) (hb:bkB n x2.2.1=true) (hl:x2.2.1.length≤1000):∀ls:List Trip,
 (∀t∈ls,runsB n t.Leg t.Day=true∧I_hasTrip G.real TE.real x2.2.2.1 t=false∧x2.2.2.2.2.2.2≤rmN n x2.2.1 t.Leg t.Day)→dc G.real TE.real x2 ls=some (.out ())
 |[],_=>by rw[dc]
 |t::ls,h=>by
  obtain⟨h1,h2,h3⟩:=h t (by simp)
  rw[dc,show(Network.mk x2.1.Legs x2.1.Off x2.1.Change)=n from e1,Ct ht hb (by omega) h1,af,cP,ao,if_neg (by omega),CD,aP,h2,mb]
  exact yb ht x2 e1 hb hl ls fun y hy=>h y (by simp[hy])
theorem Cy (a:List Int) (_:a.length≤9223372036854775807∧∀x∈a,0≤x∧x≤255):kP G.real TE.real a=some true:=by
 unfold kP
 rw[aP,EO,ao]
 split
 ·rfl
 ·obtain⟨⟨n,l,c,f,to,at_,w⟩,e,⟨hW,hL⟩,hl,_,hw⟩:=qL a (by omega)
  have hW:NetW n:=hW
  have hL:n.Legs.length≤10:=hL
  have hl:l.length≤81:=hl
  have hw:w≤59000:=hw
  have ht:=ug hW
  rw[e,af]
  obtain⟨r,r1,r2,_,r3,r4⟩:=zT ht l (by omega) c f to at_ w
  show(cl (gb G.real TE.real n l c f to at_ w) _)=_
  rw[r2,af]
  show(cl (fj G.real TE.real n l c f to at_ w) _)=_
  rw[r1,af]
  cases hr:r.2 with
  |false=>
   rw[mb,mb,r3 hr]
   simp only[lp,ib]
   rfl
  |true=>
   have hR:=r4 hr
   rw[dK,dK]
   obtain⟨q,q1,q2⟩:=AQ l (by omega) 9999
   show(cl (gZ G.real TE.real l 9999) _)=_
   rw[q1,af,lp rfl rfl,cP,ao]
   split
   ·rfl
   ·have hno:=q2 (by omega)
    have hb:=(i9 hR.bk).1
    have hn:=iM ht hb
    have hlen:=hR.len
    have hrun:=fun t ht2=>(lF hn hR.path t ht2).1
    have hl1:dc G.real TE.real (n,l,c,f,to,at_,w) r.1=some (.out ()):=yb ht (n,l,c,f,to,at_,w) rfl hR.bk (show l.length≤1000 by omega) r.1 (fun t h=>⟨hrun t h,(hR.room t h).1,(hR.room t h).2⟩)
    rw[hl1,af,kJ]
    show(cl (g7 G.real TE.real n l 9999 w r.1) _)=_
    rw[yY ht (by omega) hR (by omega) hno,af]
    have hea:=CC ht hb hR.src hR.dst hR.tm hR.path
    have hlen2:=jM ht
    show(cl (eM G.real TE.real n f to at_) _)=_
    rw[ea_i ht hlen2,af]
    show(cl (kW G.real TE.real n r.1 f to at_) _)=_
    rw[BU ht hb hR.src hR.dst hR.path (by omega),af,dK,dK]
    show(cl (bF G.real TE.real n ((l++r.1.map (zzbk 9999 w)).mergeSort leB)) _)=_
    rw[Bp ht _ (by rw[List.length_mergeSort];simp;omega),(xm ht (by omega) hR (by omega) hno).1,af,dK,aP]
    rw[show xH G.real TE.real at_ 0=max at_ 0 from rfl]
    show(cl (g0 G.real TE.real n r.1 (max at_ 0)) _)=_
    rw[yv ht hb _ hR.path,af,nm,nm,ao,if_pos hea.2,decide_eq_true hea.1]
end Go.Vs
namespace Go.Vs
theorem law4 (a:List Int) (h:a.length≤9223372036854775807∧∀x∈a,0≤x∧x≤255):kP G.real TE.real a=some true:=Cy a h
end Go.Vs
namespace Go.Proofs.YticpmdigfdpmfaaGreat.fnRoom
open Go.Vs Go.RowKit Go.WideShapes Go.ChangeShapes
set_option linter.unusedVariables false
set_option maxRecDepth 100000
theorem Fo (as0:List A) (h:ta Tryz.prog 8 Tryz.f4.params.toList as0):Go.Vs.Fn Tryz.prog 4 as0 (.c (.r (.v (.bool true)))):=by
 rw[Tryz.params4] at h
 obtain⟨x0,xs0,rfl,⟨ts0,t0,q0⟩,h⟩:=h
 rw[show lS Tryz.prog 8 22=some [.sl [.int .u8]] from by kernel_rfl] at t0
 cases t0
 rw[show zk Tryz.prog 22=false from by kernel_rfl] at q0
 obtain⟨r0,rfl,q0⟩:=q0
 obtain⟨_,_,e0,q0,e0_⟩:=wV q0
 cases e0
 obtain⟨b0,rfl,l0,q0⟩:=ES q0
 obtain⟨a0,rfl,p0⟩:=xg D3 b0 q0
 rw[List.length_map] at l0
 have h:=h
 subst h
 exact wc rfl rfl (law4 _ ⟨l0,p0⟩)
theorem lifted (os:Os) (started:os.Started) (H:Type) (enc:TypeId×Value→H):
 ReturnsInHanded {} Tryz.checked os 4 .any (Rows.fnRoomSpec.pre6 enc Tryz.prog Tryz.f4 Rows.fnRoomRow.domain false) (Rows.fnRoomSpec.post enc Tryz.prog Tryz.f4 false true false false):=by
 refine returnsInHanded_of_change (C:=Tryz.checked) (s:=Rows.fnRoomSpec) (by kernel_rfl) started (by kernel_rfl) Tryz.func4
  (ChangeSpec.witness6 (enc:=enc) (C:=Tryz.checked) false ⟨#[],#[.slice none 0 0],[]⟩ 8 (by kernel_rfl) (by kernel_rfl) (by kernel_rfl) (by kernel_rfl)) ?_
 intro W base args ds gs before hval hW _ _
 refine s9 (n:=8) (tb:=4) rfl rfl Tryz.underlying4 (by kernel_rfl) (by kernel_rfl) (fun ds hl=>?_) Fo W base args ds gs before hval hW
 rw[Tryz.params4] at hl
 match ds,hl with
 |[d0],_=>exact⟨rfl,rfl,rfl⟩
theorem Ed:joinedFacts Tryz.prog 4 Tryz.f4 Rows.fnRoomSpec Rows.fnRoomRow=true:=by
 unfold joinedFacts
 exact(cS (cS (cS (cS (cS (cS (cS (cS (cS (cS (cS (cS (cS (cS (cS (cS (cS (cS (cS (cS (cS (cS (cS (cS (cS (cS (cS (cS (cS (cS (cS (by kernel_rfl) B8) BO) (by kernel_rfl)) (by kernel_rfl)) (by kernel_rfl)) (by kernel_rfl)) (by kernel_rfl)) (by kernel_rfl)) (by kernel_rfl)) (by kernel_rfl)) (by kernel_rfl)) (by kernel_rfl)) (by kernel_rfl)) (by kernel_rfl)) (by kernel_rfl)) (by kernel_rfl)) (by kernel_rfl)) (by kernel_rfl)) (by kernel_rfl)) (by kernel_rfl)) (by kernel_rfl)) (by kernel_rfl)) (by kernel_rfl)) AU) A5) (by rw[BD];rfl)) (by rw[Ck];rfl)) (by kernel_rfl)) (by kernel_rfl)) (by kernel_rfl)) (by kernel_rfl))
theorem holds:Rows.FnRoomSaid:=
 OpenClaim.holds_of_wide 4 Tryz.f4 rfl rfl rfl rfl rfl rfl rfl ⟨rfl,rfl,rfl,rfl,rfl⟩ rfl rfl rfl rfl rfl (by kernel_rfl) Tryz.func4 Ed
  (of_decide_eq_true (by kernel_rfl)) (by unfold Func.isWrapper;first|(rw[if_pos (by decide+kernel)];kernel_rfl)|(rw[if_neg (by decide+kernel)];exact⟨rfl,rfl⟩))
  (fun os started H enc _=>lifted os started H enc)
end Go.Proofs.YticpmdigfdpmfaaGreat.fnRoom
