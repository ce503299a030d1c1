/- The law FnExactParseScan holds: whatever its arguments, the call returns true and leaves them as they were. The variables of Go's library that it reads are tied to the program's text. No further condition. -/
import Derived.Test.YtdgkokanccedkaaGreatDoorPar
import Derived.Test.YtdgkokanccedkaaGreatDoorLab
import Derived.Test.YtdgkokanccedkaaGreatDoorHb
import Derived.Test.YtdgkokanccedkaaGreatDoorLad
import Derived.Test.YtdgkokanccedkaaGreatDoorIs
import Derived.Test.YtdgkokanccedkaaGreatDoorOrder
import Derived.Test.YtdgkokanccedkaaGreatDoorRows
import Derived.Test.YtdgkokanccedkaaGreatDoorCards
import Derived.Test.YtdgkokanccedkaaGreatDoorTie
import Derived.Test.YtdgkokanccedkaaGreatDoorWr
import Derived.Lay
import Derived.ProofKit
import Derived.LaidMore
import Derived.OpenShut
import Derived.SevenTiedAt
import Derived.Stop.Joined
set_option linter.unusedVariables false
set_option linter.unusedSimpArgs false
set_option linter.unusedSectionVars false
namespace Go.Vs
open Go.IntWalk Go.Lib
theorem ps_s {n:Network} (ht:n.tot≤1048576) {s:ByteArray} (hs:s.size≤1048576):∃r,eX G.real TE.real n s=some r∧Rd n s r:=by
 unfold eX
 rw[show(32:Int)=((32:UInt8).toNat:Int) from rfl,xg (by omega),ah,dP,dO,al,fz rfl rfl,List.length_map]
 have hq:∀x:Scan,scB n x=true→s=st (scT x)→spl 32 s.data.toList=[itoa ((x.At.toNat/1440:Nat):Int),clk (x.At.toNat%1440),itoa x.Thing,wrd x.Kind,whr x]:=fun x hx e=>by rw[e];exact uC ht (fv hx)
 have hp:∀w∈spl 32 s.data.toList,(st w).size≤1048576:=fun w hw=>by
  have:=gU 32 _ _ _ hw
  have hl:s.data.toList.length=s.size:=dH s
  rw[am];simp at this;omega
 have hne:s=st []→(spl 32 s.data.toList).length≠5:=fun e=>by rw[e];decide
 generalize spl 32 s.data.toList=q at hq hp hne
 by_cases h5:(q.length:Int)=5
 ·have hs0:s≠st []:=fun e=>hne e (by omega)
  match q,h5 with
  |[a,b,c,d,e],_=>
   have ha:=hp a (by simp)
   have hb:=hp b (by simp)
   have hc:=hp c (by simp)
   have he:=hp e (by simp)
   simp only[am] at ha hb hc he
   obtain⟨t,t1,t2⟩:=pt_s (s:=st (a++[32]++b)) (by simp only[am,List.length_append,List.length_singleton];omega)
   obtain⟨i,i1,i2⟩:=y8 (s:=st c) (by rw[am];omega)
   rw[if_pos (show(([a,b,c,d,e].length:Nat):Int)=5 from rfl)]
   simp only[List.map_cons,List.map_nil,List.length_cons,List.length_nil]
   rw[af (by decide),ay (x:=st a) rfl,show ag=st [32] from rfl,af (by simp only[am,List.length_singleton];omega),af (by decide),ay (x:=st b) rfl,cW,af (by simp only[am,List.length_append,List.length_singleton];omega),cW,t1,ah,af (by decide),ay (x:=st c) rfl,i1,ah,af (by decide),ay (x:=st e) rfl,kd_s (w:=st d) rfl,ah,dO,dO,al,al]
   have hx:∀x:Scan,scB n x=true→s=st (scT x)→t=(x.At,true)∧i=(x.Thing,true)∧kdl (st d) 0=x.Kind∧e=whr x:=fun x hx e1=>by
    have hk:=fv hx
    have:=hq x hx e1
    simp only[List.cons.injEq,and_true] at this
    obtain⟨rfl,rfl,rfl,rfl,rfl⟩:=this
    refine⟨t2 x.At hk.time (by rw[wW]),?_,yn (by have:=hk.kind;omega),rfl⟩
    have h1:=hk.thing
    have:=i2 x.Thing.toNat (by omega) (by rw[show((x.Thing.toNat:Nat):Int)=x.Thing by omega])
    rwa [show((x.Thing.toNat:Nat):Int)=x.Thing by omega] at this
   have trip:(kdl (st d) 0=3∨kdl (st d) 0=2)→∃r,(gd ((0:Int)≤4∧(4:Int)<((0+1+1+1+1+1:Nat):Int))<|
    cl (dA G.real TE.real (st e) 47) fun x10=>
    br (G.real.eq (G.real.int (G.real.dlen (TE.real.d_S x10))) 2)
    (
     gd (((0:Int)≤0∧0<(((G.real.dlen (TE.real.d_S x10)):Nat):Int)))<|
     gt x10 (G.real.nat 0) fun x11=>
     cl (bJ G.real TE.real x11) fun x12=>
     gd (((0:Int)≤1∧1<(((G.real.dlen (TE.real.d_S x10)):Nat):Int)))<|
     gt x10 (G.real.nat 1) fun x13=>
     cl (bJ G.real TE.real x13) fun x14=>
     br t.2
     (
      br i.2
      (
       cl (ce G.real TE.real n (Scan.mk i.1 t.1 (kdl (st d) 0) str_k0 (Trip.mk x12.1 x14.1))) fun x15=>
       br (G.real.seq x15 s)
       (
        some (((Scan.mk i.1 t.1 (kdl (st d) 0) str_k0 (Trip.mk x12.1 x14.1)),true)))
       (
        some (((Scan.mk 0 0 0 ByteArray.empty (Trip.mk 0 0)),false))))
      (
       some (((Scan.mk 0 0 0 ByteArray.empty (Trip.mk 0 0)),false))))
     (
      some (((Scan.mk 0 0 0 ByteArray.empty (Trip.mk 0 0)),false))))
    (
     some (((Scan.mk 0 0 0 ByteArray.empty (Trip.mk 0 0)),false))))=some r∧Rd n s r:=fun k=>by
    rw[af (by decide),show(47:Int)=((47:UInt8).toNat:Int) from rfl,xg (by rw[am];omega),ah,dP,dO,al,fz rfl rfl,List.length_map,show(st e).data.toList=e from rfl]
    have hw:∀x:Scan,scB n x=true→s=st (scT x)→spl 47 e=[itoa x.Trip.Leg,itoa x.Trip.Day]∧0≤x.Trip.Leg∧x.Trip.Leg≤20∧0≤x.Trip.Day∧x.Trip.Day≤60∧x.Place=str_k0:=fun x hx1 e1=>by
     obtain⟨_,_,g3,g4⟩:=hx x hx1 e1
     have hk:=fv hx1
     have kk:x.Kind=3∨x.Kind=2:=by rw[←g3];exact k
     have hl:=je ht hk kk
     rw[g4,om kk,lF _ (fC (by omega) (by decide)),tK (fC (by omega) (by decide))]
     refine⟨rfl,hl.1,hl.2.1,hl.2.2.1,hl.2.2.2,?_⟩
     rcases kk with kk|kk
     ·exact(hk.load kk).1
     ·exact(hk.drop kk).1
    have hpp:∀w∈spl 47 e,(st w).size≤4000000:=fun w hw=>by
     have:=gU 47 _ _ _ hw
     rw[am];simp at this;omega
    generalize spl 47 e=q at hw hpp
    by_cases h2:(q.length:Int)=2
    ·match q,h2 with
     |[u,v],_=>
      obtain⟨l1,a1,a2⟩:=y8 (hpp u (by simp))
      obtain⟨l2,b1,b2⟩:=y8 (hpp v (by simp))
      rw[if_pos (show(([u,v].length:Nat):Int)=2 from rfl)]
      simp only[List.map_cons,List.map_nil,List.length_cons,List.length_nil]
      rw[af (by decide),ay (x:=st u) rfl,a1,ah,af (by decide),ay (x:=st v) rfl,b1,ah]
      cases h3:t.2 with
      |false=>exact⟨_,rfl,j5 fun x hx1 e1=>by rw[(hx x hx1 e1).1] at h3;cases h3⟩
      |true=>
       cases h4:i.2 with
       |false=>exact⟨_,rfl,j5 fun x hx1 e1=>by rw[(hx x hx1 e1).2.1] at h4;cases h4⟩
       |true=>
        rw[cK,cK,BC ht,ah,bL,al]
        refine ni hs0 fun x hx1 e1=>?_
        obtain⟨g1,g2,g3,g4⟩:=hx x hx1 e1
        obtain⟨w1,w2,w3,w4,w5,w6⟩:=hw x hx1 e1
        simp only[List.cons.injEq,and_true] at w1
        obtain⟨rfl,rfl⟩:=w1
        have p1:=a2 x.Trip.Leg.toNat (by omega) (by rw[show((x.Trip.Leg.toNat:Nat):Int)=x.Trip.Leg by omega])
        have p2:=b2 x.Trip.Day.toNat (by omega) (by rw[show((x.Trip.Day.toNat:Nat):Int)=x.Trip.Day by omega])
        rw[show((x.Trip.Leg.toNat:Nat):Int)=x.Trip.Leg by omega] at p1
        rw[show((x.Trip.Day.toNat:Nat):Int)=x.Trip.Day by omega] at p2
        exact mZ (by rw[g2]) (by rw[g1]) g3 w6.symm (by rw[p1]) (by rw[p2])
    ·rw[if_neg h2]
     exact⟨_,rfl,j5 fun x hx1 e1=>h2 (by rw[(hw x hx1 e1).1];rfl)⟩
   by_cases k3:kdl (st d) 0=3
   ·rw[if_pos k3]
    exact trip (.inl k3)
   ·rw[if_neg k3]
    by_cases k2:kdl (st d) 0=2
    ·rw[if_pos k2]
     exact trip (.inr k2)
    ·rw[if_neg k2]
     cases h3:t.2 with
     |false=>exact⟨_,rfl,j5 fun x hx1 e1=>by rw[(hx x hx1 e1).1] at h3;cases h3⟩
     |true=>
      cases h4:i.2 with
      |false=>exact⟨_,rfl,j5 fun x hx1 e1=>by rw[(hx x hx1 e1).2.1] at h4;cases h4⟩
      |true=>
       rw[cK,cK,BC ht,ah,bL,al]
       refine ni hs0 fun x hx1 e1=>?_
       obtain⟨g1,g2,g3,g4⟩:=hx x hx1 e1
       have hk:=fv hx1
       have kk:¬(x.Kind=3∨x.Kind=2):=by rw[←g3];exact fun h=>h.elim k3 k2
       have ha:=hk.at_ (by have:=hk.kind;omega)
       refine mZ (by rw[g2]) (by rw[g1]) g3 ?_ ha.2.1.symm ha.2.2.symm
       show st e=x.Place
       rw[g4,re kk,mV]
 ·rw[if_neg h5]
  exact⟨_,rfl,j5 fun x hx e=>h5 (by rw[hq x hx e];rfl)⟩
end Go.Vs
namespace Go.Vs
open Go.IntWalk Go.Lib
theorem z7 {n:Network} (ht:n.tot≤1048576) {s:ByteArray} {r:Scan×Bool} (h:Rd n s r):r.1.tot≤1048576:=by
 unfold Scan.tot
 cases hb:r.2 with
 |false=>rw[h.no hb];exact Nat.zero_le _
 |true=>
  have hk:=fv (h.yes hb).1
  rcases hk.kind with k|k|k|k
  ·have:=(lC (fu ht hk.net) (hk.at_ (.inl k)).1).1;omega
  ·rw[(hk.drop k).1];decide
  ·rw[(hk.load k).1];decide
  ·have:=(lC (fu ht hk.net) (hk.at_ (.inr k)).1).1;omega
theorem law4 (n:Network) (s:ByteArray) (hn:n.wd) (_:s.size≤9223372036854775807):cU G.real TE.real n s=some true:=by
 unfold cU
 rw[eK,dP,ge,al]
 by_cases h0:(1048576:Int)<s.size
 ·rw[if_pos h0]
 ·rw[if_neg h0,rI n _ (by omega) (by omega) hn]
  simp only[bc,eK,al]
  by_cases h:dM 1048576 n.tot<0
  ·rw[if_pos h]
  ·have hs:=jw h
   have ht:n.tot≤1048576:=by omega
   rw[if_neg h,rq n ht,ah]
   obtain⟨a,a1,a2⟩:=ps_s ht (s:=s) (by omega)
   obtain⟨b,b1,b2⟩:=Br ht (s:=s) (by omega)
   obtain rfl:=y9 a2 b2
   rw[a1,ah,ah,b1,ah]
   rw[show(Scan.mk a.1.Thing a.1.At a.1.Kind a.1.Place (Trip.mk a.1.Trip.Leg a.1.Trip.Day))=a.1 from rfl,yh a.1 (z7 ht a2),cK]
   cases a.2 with
   |true=>rw[cK,cK,ah,lW n ht];rfl
   |false=>rw[mM,mM,ah,lW n ht];rfl
end Go.Vs
namespace Go.Proofs.YtdgkokanccedkaaGreatDoor.fnExactParseScan
open Go.Vs Go.RowKit Go.WideShapes Go.ChangeShapes
set_option linter.unusedVariables false
set_option maxRecDepth 100000
theorem wu (as0:List A) (h:nt Tryz.prog 8 Tryz.f4.params.toList as0):Go.Vs.Fn Tryz.prog 4 as0 (.c (.r (.v (.bool true)))):=by
 rw[Tryz.params4] at h
 obtain⟨x0,xs0,rfl,⟨ts0,t0,q0⟩,h⟩:=h
 rw[show i5 Tryz.prog 8 46=some [.sl [.str,.str,.int .i64,.int .i64,.int .i64,.int .i64],.sl [.int .i64],.int .i64] from by kernel_rfl] at t0
 cases t0
 rw[show sh Tryz.prog 46=true from by kernel_rfl] at q0
 obtain⟨r0,rfl,q0⟩:=q0
 obtain⟨a0,rfl,w0⟩:=tv r0 q0
 obtain⟨x1,xs1,rfl,⟨ts1,t1,q1⟩,h⟩:=h
 rw[show i5 Tryz.prog 8 9=some [.str] from by kernel_rfl] at t1
 cases t1
 rw[show sh Tryz.prog 9=false from by kernel_rfl] at q1
 obtain⟨r1,rfl,q1⟩:=q1
 obtain⟨_,_,e1,q1,e1_⟩:=dL q1
 cases e1
 obtain⟨a1,rfl,w1⟩:=ti q1
 have h:=h
 subst h
 exact iP rfl rfl (law4 _ _ w0 w1)
abbrev dj:List (String×DataW Unit):=[("math/bits.deBruijn32tab",Rows.laid_math_bits_deBruijn32tab),("math/bits.deBruijn64tab",Rows.laid_math_bits_deBruijn64tab),("internal/strconv.uint64pow10",Rows.laid_internal_strconv_uint64pow10),("unicode/utf8.acceptRanges",Rows.laid_unicode_utf8_acceptRanges),("strconv.ErrRange",Rows.laid_strconv_ErrRange),("strconv.ErrSyntax",Rows.laid_strconv_ErrSyntax),("unicode/utf8.first",Rows.laid_unicode_utf8_first)]
theorem Ay:Tryz.prog.globalNamed "internal/strconv.uint64pow10" =some 3:=by kernel_rfl
theorem AX:(Rows.laid_internal_strconv_uint64pow10:DataW Unit)=Go.Lib.tabData .u64 Go.Lib.pow10Tab:=by kernel_rfl
theorem xN: "*" ++ "errors.errorString" = "*errors.errorString" :=by decide
theorem xL (u:TypeId) (h:Tryz.prog.typeName? 3 u=some "*errors.errorString"):u=177:=
 typeName_ptr_named (nm:= "errors.errorString") (by rw[xN];kernel_rfl) (by kernel_rfl) (by decide) u (by rw[xN];exact h)
theorem tE:Tryz.prog.globalNamed "strconv.ErrSyntax" =some 1:=by kernel_rfl
theorem tt {W:World} (h:laidMet Tryz.prog dj W):∃te pe,W.cell? ⟨1,0,none⟩=some (.iface te pe):=by
 obtain⟨a,s,hv,_⟩:=laid_sentinel h.tail.tail.tail.tail.tail tE (show(Tryz.prog.globals[1]?).map (·.type)=some 86 by kernel_rfl) Tryz.underlying86 xL Tryz.underlying177 Tryz.underlying179 rfl rfl Tryz.underlying9 (show Tryz.prog.cellsOf 179=1 by kernel_rfl) (show Tryz.prog.cellsOf 9=1 by kernel_rfl)
 exact⟨_,_,by simpa using World.var?_cell tE hv 0⟩
theorem tk:Tryz.prog.globalNamed "strconv.ErrRange" =some 2:=by kernel_rfl
theorem tM {W:World} (h:laidMet Tryz.prog dj W):∃te pe,W.cell? ⟨2,0,none⟩=some (.iface te pe):=by
 obtain⟨a,s,hv,_⟩:=laid_sentinel h.tail.tail.tail.tail tk (show(Tryz.prog.globals[2]?).map (·.type)=some 86 by kernel_rfl) Tryz.underlying86 xL Tryz.underlying177 Tryz.underlying179 rfl rfl Tryz.underlying9 (show Tryz.prog.cellsOf 179=1 by kernel_rfl) (show Tryz.prog.cellsOf 9=1 by kernel_rfl)
 exact⟨_,_,by simpa using World.var?_cell tk hv 0⟩
theorem qN {W:World} (hs:W.ShapedOpen Tryz.prog) (h:laidMetH Tryz.prog dj W):Laid Tryz.prog W:=by
 rw[MakeChecks.laidMetH_plain _ _ _ (by kernel_rfl)] at h
 have h1:=tt h
 have h2:=tM h
 obtain⟨ps,h,_⟩:=h
 refine⟨fun t ht _=>?_,fun t ht g hg=>?_⟩
 ·simp only[tabs,List.mem_singleton] at ht
  subst ht
  exact iH (g:=3) (t:=165) (e:=133) (n:=20) Ay (by kernel_rfl) (by kernel_rfl) (by kernel_rfl) (by kernel_rfl) (by kernel_rfl) dj ps h (by rw[←AX];simp[dj])
 ·simp only[celv,List.mem_cons,List.not_mem_nil,or_false] at ht
  rcases ht with rfl|rfl|rfl
  ·obtain rfl:=Option.some.inj (Tryz.laysM145.m1.symm.trans hg)
   obtain⟨m,hm⟩:=Tryz.laysM145.s1_3 W hs
   exact⟨_,hm,m,rfl⟩
  ·obtain rfl:=Option.some.inj (tE.symm.trans hg)
   obtain⟨te,pe,hv⟩:=h1
   exact⟨_,hv,te,pe,rfl⟩
  ·obtain rfl:=Option.some.inj (tk.symm.trans hg)
   obtain⟨te,pe,hv⟩:=h2
   exact⟨_,hv,te,pe,rfl⟩
theorem own:ownKnob Tryz.prog.godebug=none:=by kernel_rfl
theorem met (os:Os) (args:Array Value):laidMetH Tryz.prog dj ((World.laidAll Tryz.prog os dj).forCall (fun _ _=>0) ⟨#[],args,[]⟩).memory:=by
 rw[MakeChecks.laidMetH_plain _ _ _ (by kernel_rfl)]
 exact laidMet_laidAll _ (by kernel_rfl) (by kernel_rfl)
theorem lifted (os:Os) (started:os.Started) (H:Type) (enc:TypeId×Value→H):
 ReturnsInHanded {} Tryz.checked os 4 .any (fun w args=>(Rows.fnExactParseScanSpec.pre enc Tryz.prog Tryz.f4 [] false w args∧laidMetH Tryz.prog dj w)∧sizedMet enc Tryz.prog Tryz.f4 (OpenSpec.ofChange Rows.fnExactParseScanSpec) false w args)
  (Rows.fnExactParseScanSpec.post enc Tryz.prog Tryz.f4 false true false false):=by
 refine gr (C:=Tryz.checked) (X:=fun w _=>laidMetH Tryz.prog dj w) (fun _ _ _ hh h=>h.of_heap hh) own started (by kernel_rfl) Tryz.func4
  (ChangeSpec.witness_shaped (enc:=enc) (C:=Tryz.checked) (os:=os) (X:=fun w _=>laidMetH Tryz.prog dj w) false (World.laidAll Tryz.prog os dj) #[.agg #[.slice none 0 0,.slice none 0 0,.int .i64 0],.string ⟨#[]⟩] 8 (World.laidAll_os _ _ _) (World.shaped_of_ZipB (by kernel_rfl) (by kernel_rfl)) (by kernel_rfl) (by kernel_rfl) (by kernel_rfl) (met os _)) ?_
 intro W base args ds gs before hval hW hs hL
 refine kz (n:=8) (tb:=4) rfl rfl Tryz.underlying4 (by kernel_rfl) (by kernel_rfl) (fun ds hl=>?_) wu W (qN hs hL) base args ds gs before hval hW
 rw[Tryz.params4] at hl
 match ds,hl with
 |[d0,d1],_=>exact⟨rfl,rfl,rfl⟩
theorem xA:joinedFacts Tryz.prog 4 Tryz.f4 Rows.fnExactParseScanSpec Rows.fnExactParseScanRow=true:=by
 unfold joinedFacts
 exact(aE (aE (aE (aE (aE (aE (aE (aE (aE (aE (aE (aE (aE (aE (aE (aE (aE (aE (aE (aE (aE (aE (aE (aE (aE (aE (aE (aE (aE (aE (aE (by kernel_rfl) uz) uq) (by kernel_rfl)) (by kernel_rfl)) (by kernel_rfl)) (by kernel_rfl)) (by kernel_rfl)) (by kernel_rfl)) (by kernel_rfl)) (by kernel_rfl)) (by kernel_rfl)) (by kernel_rfl)) (by kernel_rfl)) (by kernel_rfl)) (by kernel_rfl)) (by kernel_rfl)) (by kernel_rfl)) (by kernel_rfl)) (by kernel_rfl)) (by kernel_rfl)) (by kernel_rfl)) (by kernel_rfl)) (by kernel_rfl)) sP) sB) (by rw[rU];rfl)) (by rw[uJ];rfl)) (by kernel_rfl)) (by kernel_rfl)) (by kernel_rfl)) (by kernel_rfl))
theorem nC:Rows.FnExactParseScanSaid:=
 OpenClaim.holds_of_wide 4 Tryz.f4 rfl rfl rfl rfl rfl rfl rfl ⟨rfl,rfl,rfl,rfl,rfl⟩ rfl rfl rfl rfl rfl (by kernel_rfl) Tryz.func4 xA
  (of_decide_eq_true (by kernel_rfl)) (by unfold Func.isWrapper;first|(rw[if_pos (by decide+kernel)];kernel_rfl)|(rw[if_neg (by decide+kernel)];exact⟨rfl,rfl⟩))
  (fun os started H enc _=>lifted os started H enc)
theorem holds:Rows.FnExactParseScanCardSaid:=
 Claim7.holds_tied_plain_at .later [] [.data,.data,.data,.data,.sentinel,.sentinel,.pinned] true (true,"25f93814be5e43bb1e2b917c9f366d1e9cf27697260c6270b908a07dabc9932e") true
  nC (fun _ h=>by cases h) (by kernel_rfl) (fun _ h=>by cases h) fnExactParseScan_row_tie rfl ⟨rfl,rfl⟩ (by kernel_rfl) rfl
  (fun f fn hf hfn=>by
   obtain rfl:f=4:=Option.some.inj ((show Tryz.prog.funcNamed "loop.example/g03014/laws.FnExactParseScan" =some 4 by kernel_rfl).symm.trans hf) |>.symm
   obtain rfl:fn=Tryz.f4:=(Option.some.inj (Tryz.func4.symm.trans hfn)).symm
   exact⟨by kernel_rfl,fun j t ht=>by
    rw[Tryz.params4] at ht
    have hm:t∈[46,9]:=by simpa using Array.mem_of_getElem? ht
    have hall:([46,9].all fun u=> !Tryz.prog.wantsStandIn u)=true:=by kernel_rfl
    exact(show Tryz.prog.wantsStandIn t=false by simpa using List.all_eq_true.1 hall t hm)⟩)
  (by kernel_rfl)
end Go.Proofs.YtdgkokanccedkaaGreatDoor.fnExactParseScan
