/- What is believed of a thing, whether it is sure, who met: both texts agree. -/
import Derived.Test.YtilplaaijbpilaaGreatGdA
import Derived.Test.YtilplaaijbpilaaGreatLai
import Derived.Test.YtilplaaijbpilaaGreatHa
set_option linter.unusedVariables false
set_option linter.unusedSimpArgs false
set_option linter.unusedSectionVars false
namespace Go.Vs
open Go.IntWalk
def rdL (n:Network) (l:List Scan) (x a d:Int):List Leg→Int→List Trip
 |[],_=>[]
 |_::ls,k=>if mrB n l x a ⟨k,d⟩=true then⟨k,d⟩::rdL n l x a d ls (k+1) else rdL n l x a d ls (k+1)
def rdD (n:Network) (l:List Scan) (x a:Int):Nat→Int→List Trip
 |0,_=>[]
 |m+1,d=>rdL n l x a d n.Legs 0++rdD n l x a m (d+1)
def beB (n:Network) (l:List Scan) (x a:Int):Belief:=⟨(plc n).filter (mbB n l x a),(rdD n l x a 61 0).take 60⟩
theorem k9 {α:Type} {w m:List α} {k:Nat} (h:w.length=k):(w++m).take k=w:=by rw[←h,List.take_left]
theorem Ap {n:Network} (ht:n.tot≤1048576) (l:List Scan) (hl:l.length≤1048576) (x a d:Int):∀(ls:List Leg) (k:Int) (w:List Trip),0≤k→k+ls.length≤4194304→w.length≤60→
 dA G.real TE.real n l x a d ls k w=some ((w++rdL n l x a d ls k).take 60)
 |[],k,w,_,_,h=>by rw[dA,rdL,List.append_nil,List.take_of_length_le h]
 |z::ls,k,w,h0,h1,h=>by
  simp only[List.length_cons] at h1
  rw[dA,rdL]
  simp only[lO,cg,bv,aA,bm,ao,Im ht l hl,ag]
  by_cases hw:w.length<60
  ·rw[if_pos (by omega),w64 (by omega) (by omega)]
   cases hb:mrB n l x a ⟨k,d⟩ with
   |true=>
    rw[ba,aj (by simp;omega),Ap ht l hl x a d ls _ _ (by omega) (by omega) (by simp;omega),if_pos rfl];simp
   |false=>
    rw[jn,Ap ht l hl x a d ls _ _ (by omega) (by omega) h,if_neg (by simp)]
  ·rw[if_neg (by omega),k9 (by omega)]
theorem E0 {n:Network} (ht:n.tot≤1048576) (l:List Scan) (hl:l.length≤1048576) (x a:Int):∀(m:Nat) (d:Int) (w:List Trip),0≤d→d+m≤4194304→w.length≤60→
 ek G.real TE.real n l x a m d w=some ((w++rdD n l x a m d).take 60)
 |0,d,w,_,_,h=>by rw[ek,rdD,List.append_nil,List.take_of_length_le h]
 |m+1,d,w,h0,h1,h=>by
  have:=cf ht
  rw[ek,rdD]
  simp only[lO,cg,bv,bm,ao]
  by_cases hw:w.length<60
  ·rw[if_pos (by omega),Ap ht l hl x a d _ _ _ (by omega) (by omega) h,ag,w64 (by omega) (by omega),E0 ht l hl x a m _ _ (by omega) (by omega) (by simp;omega)]
   congr 1
   rw[←List.append_assoc]
   generalize w++rdL n l x a d n.Legs 0=u
   by_cases hu:u.length≤60
   ·rw[List.take_of_length_le hu]
   ·rw[k9 (by simp;omega),List.take_append_of_le_length (by omega)]
  ·rw[if_neg (by omega),k9 (by omega)]
theorem zu {n:Network} (ht:n.tot≤1048576) (l:List Scan) (hl:l.length≤1048576) (x a:Int) (p:List ByteArray) (hp:p.length≤4194304):∀(m k:Nat) (w:List ByteArray),k+m=p.length→w.length≤k→
 dC G.real TE.real n l x a p m (k:Int) w=some (w++(p.drop k).filter (mbB n l x a))
 |0,k,w,h,_=>by rw[dC,List.drop_of_length_le (by omega)];simp
 |m+1,k,w,h,hw=>by
  have hk:k<p.length:=by omega
  rw[dC]
  simp only[aZ,Int.toNat_natCast,bm,aA,Hv ht l hl,ag]
  rw[az (List.getElem?_eq_getElem hk),w64 (by omega) (by omega),show(k:Int)+1=((k+1:Nat):Int) from by omega,List.drop_eq_getElem_cons hk,List.filter_cons]
  cases hb:mbB n l x a p[k] with
  |true=>rw[ba,aj (by simp;omega),zu ht l hl x a p hp m (k+1) _ (by omega) (by simp;omega),if_pos rfl];simp
  |false=>rw[jn,zu ht l hl x a p hp m (k+1) _ (by omega) (by omega),if_neg (by simp)]
theorem Gx {n:Network} (ht:n.tot≤1048576) (l:List Scan) (hl:l.length≤1048576) (x a:Int):jV G.real TE.real n l x a=some (beB n l x a):=by
 have hp:=pP ht
 unfold jV
 rw[rL (cf ht),ag]
 simp only[hG,cg]
 have hc:ay 0 ((plc n).length:Int)=(plc n).length:=by unfold ay;omega
 rw[aj (by omega),hc,show(0:Int)=((0:Nat):Int) from rfl,zu ht l hl x a _ hp _ 0 [] (by omega) (by simp),ag,show gp ((0:Nat):Int) 60=61 from rfl,E0 ht l hl x a 61 _ [] (by omega) (by omega) (by simp),ag,List.nil_append,List.nil_append,List.drop_zero]
 rfl
theorem tG {n:Network} (ht:n.tot≤1048576) (hb:netB n=true) (l:List Scan) (x a d:Int):∀(ls:List Leg) (k:Int) (w:List Trip),0≤k→k+ls.length≤4194304→w.length≤60→
 cw G.real TE.real n d (knB n (laB n l x a) (nxB n l x a) a) ls k w=some ((w++rdL n l x a d ls k).take 60)
 |[],k,w,_,_,h=>by rw[cw,rdL,List.append_nil,List.take_of_length_le h]
 |z::ls,k,w,h0,h1,h=>by
  simp only[List.length_cons] at h1
  rw[cw,rdL]
  simp only[lO,cg,bv,aA,bm,ao,zk (cf ht),ag]
  have hm:∀(h:runsB n k d=true),(aB G.real TE.real (Know.mk (Network.mk (knB n (laB n l x a) (nxB n l x a) a).n.Legs (knB n (laB n l x a) (nxB n l x a) a).n.Off (knB n (laB n l x a) (nxB n l x a) a).n.Change) (knB n (laB n l x a) (nxB n l x a) a).at_ (knB n (laB n l x a) (nxB n l x a) a).known (knB n (laB n l x a) (nxB n l x a) a).place (Trip.mk (knB n (laB n l x a) (nxB n l x a) a).ride.Leg (knB n (laB n l x a) (nxB n l x a) a).ride.Day) (knB n (laB n l x a) (nxB n l x a) a).rides (knB n (laB n l x a) (nxB n l x a) a).free (Spot.mk (knB n (laB n l x a) (nxB n l x a) a).from_.Place (knB n (laB n l x a) (nxB n l x a) a).from_.At) (Spot.mk (knB n (laB n l x a) (nxB n l x a) a).to.Place (knB n (laB n l x a) (nxB n l x a) a).to.At) (knB n (laB n l x a) (nxB n l x a) a).more) ⟨k,d⟩)=some (mrB n l x a ⟨k,d⟩):=fun h=>by
   have hT:kO n ⟨k,d⟩=true:=by unfold kO;rw[hb,h];rfl
   have:=u6 ht (A:=laB n l x a) (B:=nxB n l x a) nW a hT
   unfold mrB
   rw[hT,Bool.true_and]
   exact this
  by_cases hw:w.length<60
  ·rw[if_pos (by omega),w64 (by omega) (by omega)]
   cases hr:runsB n k d with
   |true=>
    rw[ba,hm hr,ag]
    cases hc:mrB n l x a ⟨k,d⟩ with
    |true=>rw[ba,aj (by simp;omega),tG ht hb l x a d ls _ _ (by omega) (by omega) (by simp;omega),if_pos rfl];simp
    |false=>rw[jn,tG ht hb l x a d ls _ _ (by omega) (by omega) h,if_neg (by simp)]
   |false=>
    have hc:mrB n l x a ⟨k,d⟩=false:=by unfold mrB kO;rw[hr];simp
    rw[jn,tG ht hb l x a d ls _ _ (by omega) (by omega) h,if_neg (by simp[hc])]
  ·rw[if_neg (by omega),w64 (by omega) (by omega),tG ht hb l x a d ls _ _ (by omega) (by omega) h,k9 (by omega),k9 (by omega)]
theorem EE {n:Network} (ht:n.tot≤1048576) (hb:netB n=true) (l:List Scan) (x a:Int):∀(m:Nat) (d:Int) (w:List Trip),0≤d→d+m≤4194304→w.length≤60→
 ei G.real TE.real n (knB n (laB n l x a) (nxB n l x a) a) m d w=some ((w++rdD n l x a m d).take 60)
 |0,d,w,_,_,h=>by rw[ei,rdD,List.append_nil,List.take_of_length_le h]
 |m+1,d,w,h0,h1,h=>by
  have:=cf ht
  rw[ei,rdD,tG ht hb l x a d _ _ _ (by omega) (by omega) h,ag,bm,w64 (by omega) (by omega),EE ht hb l x a m _ _ (by omega) (by omega) (by simp;omega)]
  congr 1
  rw[←List.append_assoc]
  generalize w++rdL n l x a d n.Legs 0=u
  by_cases hu:u.length≤60
  ·rw[List.take_of_length_le hu]
  ·rw[k9 (by simp;omega),List.take_append_of_le_length (by omega)]
theorem Aw {n:Network} (ht:n.tot≤1048576) (l:List Scan) (x a:Int) (p:List ByteArray) (hp:p.length≤4194304) (hs:∀z∈p,z∈plc n):∀(m k:Nat) (w:List ByteArray),k+m=p.length→w.length≤k→
 dz G.real TE.real (knB n (laB n l x a) (nxB n l x a) a) p m (k:Int) w=some (w++(p.drop k).filter (mbB n l x a))
 |0,k,w,h,_=>by rw[dz,List.drop_of_length_le (by omega)];simp
 |m+1,k,w,h,hw=>by
  have hk:k<p.length:=by omega
  rw[dz]
  have hm:(aC G.real TE.real (Know.mk (Network.mk (knB n (laB n l x a) (nxB n l x a) a).n.Legs (knB n (laB n l x a) (nxB n l x a) a).n.Off (knB n (laB n l x a) (nxB n l x a) a).n.Change) (knB n (laB n l x a) (nxB n l x a) a).at_ (knB n (laB n l x a) (nxB n l x a) a).known (knB n (laB n l x a) (nxB n l x a) a).place (Trip.mk (knB n (laB n l x a) (nxB n l x a) a).ride.Leg (knB n (laB n l x a) (nxB n l x a) a).ride.Day) (knB n (laB n l x a) (nxB n l x a) a).rides (knB n (laB n l x a) (nxB n l x a) a).free (Spot.mk (knB n (laB n l x a) (nxB n l x a) a).from_.Place (knB n (laB n l x a) (nxB n l x a) a).from_.At) (Spot.mk (knB n (laB n l x a) (nxB n l x a) a).to.Place (knB n (laB n l x a) (nxB n l x a) a).to.At) (knB n (laB n l x a) (nxB n l x a) a).more) p[k])=some (mbB n l x a p[k]):=by
   have:=Be ht (A:=laB n l x a) (B:=nxB n l x a) nW a p[k]
   unfold mbB
   rw[decide_eq_true (hs _ (List.getElem_mem hk)),Bool.true_and]
   exact this
  simp only[aZ,Int.toNat_natCast,bm,aA]
  rw[az (List.getElem?_eq_getElem hk),hm,ag,w64 (by omega) (by omega),show(k:Int)+1=((k+1:Nat):Int) from by omega,List.drop_eq_getElem_cons hk,List.filter_cons]
  cases hb:mbB n l x a p[k] with
  |true=>rw[ba,aj (by simp;omega),Aw ht l x a p hp hs m (k+1) _ (by omega) (by simp;omega),if_pos rfl];simp
  |false=>rw[jn,Aw ht l x a p hp hs m (k+1) _ (by omega) (by omega),if_neg (by simp)]
theorem EM {n:Network} {l:List Scan} {x a d:Int} (h:netB n=false):∀(ls:List Leg) (k:Int),rdL n l x a d ls k=[]
 |[],_=>rfl
 |z::ls,k=>by
  rw[rdL,if_neg (by unfold mrB kO;rw[h];simp),EM h ls]
theorem DN {n:Network} {l:List Scan} {x a:Int} (h:netB n=false):∀(m:Nat) (d:Int),rdD n l x a m d=[]
 |0,_=>rfl
 |m+1,d=>by rw[rdD,EM h,DN h m];rfl
theorem CW {n:Network} {l:List Scan} {x a:Int} (h:netB n=false):beB n l x a=⟨[],[]⟩:=by
 unfold beB
 rw[DN h,show(plc n).filter (mbB n l x a)=[] from by
  rw[List.filter_eq_nil_iff]
  intro p _
  unfold mbB
  rw[Af (zS h)];simp]
 rfl
theorem GM {n:Network} (ht:n.tot≤1048576) (l:List Scan) (hl:l.length≤1048576) (x a:Int):gR G.real TE.real n l x a=some (beB n l x a):=by
 have hp:=pP ht
 unfold gR
 rw[uY ht,ag]
 cases hb:netB n with
 |false=>rw[jn,CW hb]
 |true=>
  rw[ba,Hm ht l hl,ag,vc (cf ht),ag]
  simp only[hG,cg]
  have hc:ay 0 ((plc n).length:Int)=(plc n).length:=by unfold ay;omega
  rw[aj (by omega),hc,show(0:Int)=((0:Nat):Int) from rfl,Aw ht l x a _ hp (fun _ h=>h) _ 0 [] (by omega) (by simp),ag,show gp ((0:Nat):Int) 60=61 from rfl,EE ht hb l x a 61 _ [] (by omega) (by omega) (by simp),ag,List.nil_append,List.nil_append,List.drop_zero]
  rfl
theorem tq {α:Type} (f:α→Nat) (c:Nat):∀(l:List α),(∀y∈l,f y≤c)→bL f l≤c*l.length
 |[],_=>Nat.zero_le _
 |y::l,h=>by
  have h1:=tq f c l fun z hz=>h z (List.mem_cons_of_mem _ hz)
  have h2:=h y (List.mem_cons_self ..)
  unfold bL at h1 ⊢
  rw[List.map_cons,List.sum_cons,List.length_cons,Nat.mul_add]
  omega
theorem Ct {n:Network} (ht:n.tot≤1048576) (hb:netB n=true):(plc n).length≤40∧∀p∈plc n,p.size≤3:=by
 have hn:=nl ht hb
 have:=hJ n
 have:=hn.len
 refine⟨by omega,fun p hp=>?_⟩
 obtain⟨z,hz,h⟩:=(nh n p).1 hp
 have hk:=hn.legs z hz
 rcases h with rfl|rfl
 ·exact Nat.le_of_eq hk.from3
 ·exact Nat.le_of_eq hk.to3
theorem Bv {n:Network} (ht:n.tot≤1048576) (hb:netB n=true) {w:List ByteArray} (h:w.Sublist (plc n)):w.length+bL (fun y=>y.size) w≤160:=by
 obtain⟨h1,h2⟩:=Ct ht hb
 have h3:=h.length_le
 have h4:=tq (fun y:ByteArray=>y.size) 3 w fun y hy=>h2 y (h.subset hy)
 omega
theorem wH {n:Network} (ht:n.tot≤1048576) (l:List Scan) (x a:Int):(beB n l x a).tot≤1048576:=by
 cases hb:netB n with
 |false=>rw[CW hb];exact Nat.zero_le _
 |true=>
  have h1:=Bv ht hb (List.filter_sublist (p:=mbB n l x a) (l:=plc n))
  have h2:((rdD n l x a 61 0).take 60).length≤60:=by simp;omega
  unfold Belief.tot beB
  dsimp only
  omega
def suB (n:Network) (l:List Scan) (x a:Int):Bool:=decide ((beB n l x a).Places.length+(beB n l x a).Rides.length=1)
theorem Fo {b:Belief} (h:b.tot≤1048576):qD G.real TE.real b=((b.Places.length+b.Rides.length:Nat):Int):=by
 unfold Belief.tot at h
 unfold qD
 simp only[Hb,Cr,bm]
 rw[w64 (by omega) (by omega)]
 omega
theorem I9 {n:Network} (ht:n.tot≤1048576) (l:List Scan) (hl:l.length≤1048576) (x a:Int):mW G.real TE.real n l x a=some (suB n l x a):=by
 unfold mW suB
 rw[Gx ht l hl,ag,aA,Fo (wH ht l x a),co]
 congr 1
 rw[decide_eq_decide]
 omega
theorem su_i {n:Network} (ht:n.tot≤1048576) (l:List Scan) (hl:l.length≤1048576) (x a:Int):ot G.real TE.real n l x a=some (suB n l x a):=by
 rw[←I9 ht l hl]
 unfold mW ot
 rw[Gx ht l hl,GM ht l hl]
 rfl
def meB (n:Network) (l:List Scan) (x y a:Int):List ByteArray:=(plc n).filter fun p=>mbB n l y a p&&mbB n l x a p
theorem wJ {n:Network} (ht:n.tot≤1048576) (l:List Scan) (hl:l.length≤1048576) (x y a:Int) (p:List ByteArray) (hp:p.length≤4194304):∀(m k:Nat) (w:List ByteArray),k+m=p.length→w.length≤k→
 fq G.real TE.real n l x y a p m (k:Int) w=some (w++(p.drop k).filter fun p=>mbB n l y a p&&mbB n l x a p)
 |0,k,w,h,_=>by rw[fq,List.drop_of_length_le (by omega)];simp
 |m+1,k,w,h,hw=>by
  have hk:k<p.length:=by omega
  rw[fq]
  simp only[aZ,Int.toNat_natCast,bm,aA,Hv ht l hl,ag]
  rw[az (List.getElem?_eq_getElem hk),w64 (by omega) (by omega),show(k:Int)+1=((k+1:Nat):Int) from by omega,List.drop_eq_getElem_cons hk,List.filter_cons]
  cases hb:mbB n l x a p[k] with
  |true=>
   rw[ba]
   cases hc:mbB n l y a p[k] with
   |true=>rw[ba,aj (by simp;omega),wJ ht l hl x y a p hp m (k+1) _ (by omega) (by simp;omega),if_pos (show(true&&true)=true from rfl)];simp
   |false=>rw[jn,wJ ht l hl x y a p hp m (k+1) _ (by omega) (by omega),if_neg (by simp)]
  |false=>rw[jn,wJ ht l hl x y a p hp m (k+1) _ (by omega) (by omega),if_neg (by simp)]
theorem me_s {n:Network} (ht:n.tot≤1048576) (l:List Scan) (hl:l.length≤1048576) (x y a:Int):qS G.real TE.real n l x y a=some (meB n l x y a):=by
 have hp:=pP ht
 unfold qS
 simp only[aA,rL (cf ht),ag,hG,cg]
 have hc:ay 0 ((plc n).length:Int)=(plc n).length:=by unfold ay;omega
 rw[aj (by omega),hc,show(0:Int)=((0:Nat):Int) from rfl,wJ ht l hl x y a _ hp _ 0 [] (by omega) (by simp),ag,List.nil_append,List.drop_zero]
 rfl
theorem zV {n:Network} (ht:n.tot≤1048576) (l:List Scan) (hl:l.length≤1048576) (y a:Int) (b:Belief) (hp:b.Places.length≤4194304):∀(m k:Nat) (w:List ByteArray),k+m=b.Places.length→w.length≤k→
 gj G.real TE.real n l y a b m (k:Int) w=some (w++(b.Places.drop k).filter (mbB n l y a))
 |0,k,w,h,_=>by rw[gj,List.drop_of_length_le (by omega)];simp
 |m+1,k,w,h,hw=>by
  have hk:k<b.Places.length:=by omega
  rw[gj]
  simp only[aZ,Int.toNat_natCast,bm,aA,HZ ht l hl,ag]
  rw[az (List.getElem?_eq_getElem hk),w64 (by omega) (by omega),show(k:Int)+1=((k+1:Nat):Int) from by omega,List.drop_eq_getElem_cons hk,List.filter_cons]
  cases hb:mbB n l y a b.Places[k] with
  |true=>rw[ba,aj (by simp;omega),zV ht l hl y a b hp m (k+1) _ (by omega) (by simp;omega),if_pos rfl];simp
  |false=>rw[jn,zV ht l hl y a b hp m (k+1) _ (by omega) (by omega),if_neg (by simp)]
theorem me_i {n:Network} (ht:n.tot≤1048576) (l:List Scan) (hl:l.length≤1048576) (x y a:Int):oM G.real TE.real n l x y a=some (meB n l x y a):=by
 have hp:(beB n l x a).Places.length≤4194304:=by
  have:=wH ht l x a
  unfold Belief.tot at this
  omega
 unfold oM
 simp only[aA,GM ht l hl,ag,hG,cg]
 have hc:ay 0 ((beB n l x a).Places.length:Int)=(beB n l x a).Places.length:=by unfold ay;omega
 rw[aj (by omega),hc,show(0:Int)=((0:Nat):Int) from rfl,zV ht l hl y a _ hp _ 0 [] (by omega) (by simp),ag,List.nil_append,List.drop_zero]
 congr 1
 unfold beB meB
 dsimp only
 rw[List.filter_filter]
theorem FA {n:Network} (ht:n.tot≤1048576) (l:List Scan) (x y a:Int):(meB n l x y a).length+bL (fun y=>y.size) (meB n l x y a)≤1048576:=by
 cases hb:netB n with
 |false=>
  rw[show meB n l x y a=[] from by
   unfold meB
   rw[List.filter_eq_nil_iff]
   intro p _
   unfold mbB
   rw[Af (zS hb)];simp]
  exact Nat.zero_le _
 |true=>
  have:=Bv ht hb (List.filter_sublist (p:=fun p=>mbB n l y a p&&mbB n l x a p) (l:=plc n))
  unfold meB
  omega
end Go.Vs
