import Derived.Test.YtdmempceikifeaaGreatA03
import Derived.BigRegion
import Derived.Deep.RegionHeld3
import Derived.LoopIn
import Derived.LoopNIn
import Derived.OwnWalkIn
import Derived.RangeFuncBound
import Derived.RangeFuncCalls
import Derived.RangeFuncLeaves
import Derived.RangeFuncNested
import Derived.Shelf.Abstract
import Derived.Shelf.RegionOpen
import Derived.TacticsInMore
set_option maxRecDepth 100000
set_option maxHeartbeats 16000000
set_option linter.all false
namespace Go.Proofs.YtdmempceikifeaaGreat
open Go.RowKit Tryz
def DB(w:Aj)(g n:Nat)(pre:Nat->An):Prop:=∃u,Aq w g 221 u/\u.size=n*2/\∀i,i<n->u[i*2]? =some (.int .u32 (CL (pre i):Nat))/\u[i*2+1]? =some (.int .u32 (DY (pre i):Nat))
def I3(pre:Nat->An)(k:Nat)(c:An)(i:Nat):An:=if i=k then c else pre i
def Ac4(pre k):I3 pre k (pre k)=pre:=by funext i;unfold I3;split<;>simp_all
def NE(pre k c):I3 pre k c k=c:=by simp[I3]
def Ago(pre k c d):I3 (I3 pre k c) k d=I3 pre k d:=by funext i;unfold I3;split<;>rfl
section
variable{w w':World}{g n:Nat}{pre:Nat->List Int}
theorem DB.ext(h:DB w g n pre)(u:Ae w w'):DB w' g n pre:=let⟨E,H,J⟩:=h;⟨E,H.ext u,J⟩
theorem DB.cells(h:DB w g n pre){i}(hi:i<n):w.cell? ⟨g,i*2,none⟩=some (.int .u32 (CL (pre i):Nat))/\w.cell? ⟨g,i*2+1,none⟩=some (.int .u32 (DY (pre i):Nat)):=by obtain⟨H,u,_,E⟩:=h;exact⟨(u.cell _).trans (E i hi).1,(u.cell _).trans (E i hi).2⟩
theorem DB.frozen(h:DB w g n pre)(i):w.frozen? ⟨g,i,none⟩=false:=let⟨_,u,_⟩:=h;u.frozen i
theorem DB.yes(h:DB w g n pre){k}(T:k<n){c}(u:DY c=DY (pre k)):DB (w.setCell ⟨g,k*2,none⟩ (.int .u32 (CL c:Nat))) g n (I3 pre k c):=by
 obtain⟨U,E,H,J⟩:=h;refine⟨_,E.ad (k*2) _,by simp[H],λi hi=>?_⟩;obtain⟨a,b⟩:=J i hi;by_cases e:i=k;subst e;rw[NE,u];refine⟨by rw[act Ad],?_⟩;rw[xd Ad];exact b;have O:I3 pre k c i=pre i:=by unfold I3;rw[zo e]
 rw[O,xd Ad,xd Ad];exact⟨a,b⟩
theorem DB.no(h:DB w g n pre){k}(T:k<n){c}(u:CL c=CL (pre k)):DB (w.setCell ⟨g,k*2+1,none⟩ (.int .u32 (DY c:Nat))) g n (I3 pre k c):=by
 obtain⟨U,E,H,J⟩:=h;refine⟨_,E.ad (k*2+1) _,by simp[H],λi hi=>?_⟩;obtain⟨a,b⟩:=J i hi;by_cases e:i=k;subst e;rw[NE,u];refine⟨?_,by rw[act Ad]⟩;rw[xd Ad];exact a;have O:I3 pre k c i=pre i:=by unfold I3;rw[zo e]
 rw[O,xd Ad,xd Ad];exact⟨a,b⟩
end
def Aea:(prog.info? 221).map (λi=>(i.zero,i.size,i.bytes))=some (some (.agg #[.int .u32 0,.int .u32 0]),2,8):=AJ
def DB.new(w:Aj)(n):DB (w.alloc (.cells (madeCells #[.int .u32 0,.int .u32 0] (n*2)) 221)) w n (λ_=>[]):=by
 refine⟨_,Aq.new w _ _,size_madeCells _ _,λi hi=>?_⟩;have u:∀j,j<n*2->(madeCells #[Value.int .u32 0,.int .u32 0] (n*2))[j]? =some (.int .u32 0):=λj E=>by have:j%2=0\/j%2=1:=Ad;rcases this with e|e<;>simp[madeCells,E,e]
 exact⟨u _ Ad,u _ Ad⟩
def WC{c}(h:∀l∈c,l<=16):CL c<65536:=by revert h;refine D0 (P:=λc=>(∀l∈c,l<=16)->CL c<65536) (λ_=>by simp[CL]) (λxs x H h=>?_) c;have u:=H (λl J=>h l (by simp[J]));have O:=h x AG;rw[K8];by_cases E:0<x;rw[zq E];exact Nat.or_lt_two_pow (n:=16) u (ab6 Ax Ad);rw[zo E];exact u
def ZN{c}(h:∀l∈c,-16<=l):DY c<65536:=by revert h;refine D0 (P:=λc=>(∀l∈c,-16<=l)->DY c<65536) (λ_=>by simp[DY]) (λxs x H h=>?_) c;have u:=H (λl J=>h l (by simp[J]));have O:=h x AG;rw[Mg];by_cases E:0<x;rw[zq E];exact u;rw[zo E];exact Nat.or_lt_two_pow (n:=16) u (ab6 Ax Ad)
def We(k)(u:k<16):(2:Int)^k%4294967296=((2^k:Nat):Int):=by have E:2^k<2^16:=ab6 Ax u;have e:(2:Int)^k=((2^k:Nat):Int):=AG;rw[e];generalize 2^k=p at E⊢;omega
def Aho{c l}(u:0<l)(E:l<=16)(H:CL c<65536):bits .or .u32 (CL c:Nat) (2^(l.toNat-1)%4294967296)=(CL (c++[l]):Nat):=by have J:2^(l.toNat-1)<2^16:=ab6 Ax Ad;rw[We _ Ad,u32_or_nat _ _ Ad Ad,K8,zq u,show(l-1).toNat=l.toNat-1 by omega]
def Aid{c l}(u:l<0)(E:-16<=l)(H:DY c<65536):bits .or .u32 (DY c:Nat) (2^((-l).toNat-1)%4294967296)=(DY (c++[l]):Nat):=by have J:2^((-l).toNat-1)<2^16:=ab6 Ax Ad;rw[We _ Ad,u32_or_nat _ _ Ad Ad,Mg,zo Ad,show(-l-1).toNat=(-l).toNat-1 by omega]
def Aeb{L:AT}{k c}(h:L[k]? =some c):I3 (λi=>if i<k then L.getD i []else[]) k c=λi=>if i<k+1 then L.getD i []else[]:=by funext i;unfold I3;by_cases e:i=k;subst e;rw[zq rfl,zq Ad,yc,h];rfl;rw[zo e];dsimp only;by_cases hi:i<k;rw[zq hi,zq Ad];rw[zo hi,zo Ad]
def AbX(L:AT)(w:Aj)(e:Bz)(w':Aj):Prop:=∃g,e=.returned (.slice (some ⟨g,0,none⟩) L.length L.length)/\w.heap.size<=g/\DB w' g L.length (λi=>L.getD i [])/\Ae w w'
def Agi(v:Int)(A:AD)(n c:Nat)(L:AT)(w:Aj)(h:Bf w A n L)(aS:n<=1000000)(aA:∀c∈L,∀l∈c,l≠0/\-16<=l/\l<=16):AC 123 #[.agg #[v,.slice A n c]] w (AbX L w):=by
 have ad:=(Ae.refl w).alloc (Obj.cells #[v,.slice A n c] 34);have ae:=Aq.new w 34 #[v,.slice A n c];have af:(w.alloc (Obj.cells #[v,.slice A n c] 34)).cell? ⟨w,1,none⟩=some (.slice A n c):=ae.cell 1;have aB:=λo=>(((Ae.refl _).alloc o).cell af);have aT:=h.ext ad;have aC:=h.1;obtain⟨aD,hi,ag,ah,aj⟩:=info_parts Aea;have aE:=λW=>Ci (P:=prog) 217 221 aD _ AJ hi ag .i64 .i64 n n (zs _) (by rw[aj];omega) Ad W;rw[ah,show(Value.agg #[Value.int .u32 0,.int .u32 0]).cells=#[Value.int .u32 0,.int .u32 0]from rfl]at aE;have aF:=h;clear ae h hi ag ah aj;go_enter func123,ntmps123;go_wp2;have T:=ad.alloc (Obj.cells (madeCells #[.int .u32 0,.int .u32 0] (n*2)) 221);have J:=DB.new (w.alloc (Obj.cells #[v,.slice A n c] 34)) n;rw[z3]at J;generalize(w.alloc (Obj.cells #[v,.slice A n c] 34)).alloc (Obj.cells (madeCells #[.int .u32 0,.int .u32 0] (n*2)) 221)=w2 at T J⊢;clear af aB;have aG:=T;have ak:=J;obtain⟨g,al⟩:∃g,w.heap.size+1=g:=⟨_,rfl⟩;have am:w.heap.size<=g:=by omega
 rw[al]at ak⊢;clear T J al;go_loopw[4,5,7,15](λ_ _ _ i wr=>∃k:Nat,k<=n/\i=k/\DB wr g n (λi=>if i<k then L.getD i []else[])/\Ae w wr)(λ_ _ _ i _=>n-(intOf i).toNat);case atStart=>exact⟨0,zx _,rfl,by simpa using ak,aG⟩
 case round=>
  obtain⟨k,aU,rfl,an,U⟩:=hrel;skip;by_cases O:k<n
  . obtain⟨aV,cl,A',n',c',rfl,ao,aH,V⟩:=aF.at_ O;have aW:=U.cell aH;have Z:=aA cl (zm ao);have aX:=V.1;have aY:=V.len;skip;go_wp2;go_loopw[7,22](λ_ i aq=>∃j:Nat,j<=n'/\i=j/\DB aq g n (I3 (λi=>if i<k then L.getD i []else[]) k (cl.take j))/\Ae w aq)(λ_ i _=>n'-(intOf i).toNat);case atStart=>exact⟨0,zx _,rfl,by
     have e:I3 (λi=>if i<k then L.getD i []else[]) k (cl.take 0)=(λi=>if i<k then L.getD i []else[]):=by have:=Ac4 (λi=>if i<k then L.getD i []else[]) k;simpa using this
     rw[e];exact an,U⟩
    case round=>
     obtain⟨j,aZ,rfl,u,aa⟩:=hrel;skip;by_cases aI:j<n'
     . obtain⟨a1,l,rfl,E,a5,a6,a7⟩:=(V.ext aa).at_ aI;obtain⟨a8,a9,ba⟩:=Z l (zm E);obtain⟨aJ,aK⟩:=u.cells O;have f0:=u.frozen (k*2);have f1:=u.frozen (k*2+1);rw[NE]at aJ aK;have au:=WC (c:=cl.take j) (λl E=>by have:=Z l (xh E);omega);have av:=ZN (c:=cl.take j) (λl E=>by have:=Z l (xh E);omega);have H:=AM E;by_cases ab:0<l;focus have aw:=zk (Aho (c:=cl.take j) ab Ad au);have ax:=u.yes O (c:=cl.take (j+1)) (by rw[NE,H,Mg,zq ab]);have ay:=zk H
       rotate_left;focus have aL:l<0:=Ad;have aw:=zk (Aid (c:=cl.take j) aL Ad av);have ax:=u.no O (c:=cl.take (j+1)) (by rw[NE,H,K8,zo ab]);have ay:=zk H;have bc:IntKind.i64.wrap (-l)=-l:=z5 _ Ad
       all_goals
        clear H au av;go_wp2;go_region
        rw[aw.out,<-ay.out];go_wp2;go_roundw;case rel=>exact⟨j+1,Ad,by go_num,by rw[<-Ago _ k (cl.take j)];exact ax.ext (Ae.refl _).drew,(aa.setCell am _).drew⟩
        case measure=>simp[intOf];omega
     obtain rfl:j=n':=Ad;have ac:=u;rw[z1 Ad,Aeb ao]at ac;have aM:=ac;clear ac;go_wp2;go_roundw;case rel=>exact⟨k+1,Ad,by go_num,aM,aa⟩
     case measure=>simp[intOf];omega
  obtain rfl:k=n:=Ad;have aN:=an;have az:=zk aC;go_wp2;go_ret;refine⟨g,by rw[az.out];rfl,am,?_,U⟩;rw[az.out];obtain⟨aO,aP,aQ,aR⟩:=aN;exact⟨aO,aP,aQ,λi hi=>by have:=aR i hi;simpa[hi]using this⟩
def AiI(m y:Nat)(E:m<65536)(H:y<65536):(bits .and .u32 (m:Int) (y:Int)==0)=(m&&&y==0):=by
 rw[u32_and_nat _ _ Ad Ad];by_cases h:m&&&y=0;rw[h];rfl;have u:(((m&&&y:Nat):Int)==0)=false:=by simpa using h
 rw[u];simpa using h
def AgX(m:Nat)(u:m<65536):bits .xor .u32 IntKind.u32.max (m:Int)=((4294967295-m:Nat):Int):=by show IntKind.u32.wrap ((BitVec.ofInt 32 4294967295^^^BitVec.ofInt 32 (m:Int)).toNat:Int)=_;have e:BitVec.ofInt 32 4294967295=BitVec.allOnes 32:=Ax;rw[e,BitVec.allOnes_xor,BitVec.toNat_not,ofInt_u32 m Ad,IntWalk.u32_in _ Ad]
def AfD(m n:Nat)(_hm:m<65536)(E:n<65536):(bits .and .u32 ((4294967295-m:Nat):Int) (n:Int)==0)=((4294967295-m)&&&n==0):=by
 rw[u32_and_nat _ _ Ad Ad];by_cases h:(4294967295-m)&&&n=0;rw[h];rfl;have u:((((4294967295-m)&&&n:Nat):Int)==0)=false:=by simpa using h
 rw[u];simpa using h
def AeB(b)(m y n:Nat)(w)(hb:w.cell? b=some (.int .u32 m))(E:m<65536)(T:y<65536)(U:n<65536):AC 124 #[.agg #[.int .u32 y,.int .u32 n],.pointer (some b)] w λe w'=>e=.returned (.bool (Do m y n))/\Ae w w':=by
 have H:=(Ae.refl w).alloc (Obj.cells #[.int .u32 y,.int .u32 n] 221);have a0:=H.cell hb;have O:=zk (AiI m y E T);cases u:(m&&&y==0)with
 |false=>
  have J:Hid (Do m y n=false):=by unfold Hid Do;rw[u];rfl
  have V:(bits .and .u32 (m:Int) (y:Int)==0)=false:=by rw[O.out,u]
  go_enter func124,ntmps124;go_wp2;go_ret;exact⟨Bo J.symm,H⟩
 |true=>
  have J:Hid (Do m y n=((4294967295-m)&&&n==0)):=by unfold Hid Do;rw[u];rfl
  have V:(bits .and .u32 (m:Int) (y:Int)==0)=true:=by rw[O.out,u]
  go_enter func124,ntmps124;go_wp2;all_goals go_ret;exact⟨Bo (by rw[J.out,AgX m E,AfD m n E U]),H⟩
def YL(g n:Nat)(pre:Nat->An)(b:Addr)(m:Nat)(w:Aj)(h:DB w g n pre)(hb:w.cell? b=some (.int .u32 m))(aa:m<65536)(ab:∀i,i<n->CL (pre i)<65536/\DY (pre i)<65536)(af:n<=1000000):AC 194 #[.slice g n n,.func (.func 124) #[] #[.pointer (some b)]] w λe w'=>e=.returned (CM (λi=>Do m (CL (pre i)) (DY (pre i))) (List.range n))/\Ae w w':=by
 go_enter func194,ntmps194;go_wp2;go_loopw[5,8](λ_ i wr=>∃k:Nat,k<=n/\i=k/\((List.range n).take k).findIdx? (λi=>Do m (CL (pre i)) (DY (pre i)))=none/\Ae w wr)(λ_ i _=>n-(intOf i).toNat);case atStart=>exact⟨0,zx _,rfl,rfl,Ae.refl _⟩
 case round=>
  obtain⟨k,ag,rfl,O,u⟩:=hrel;have H:=zk O;clear O;by_cases E:k<n
  . have T:Hid ((List.range n)[k]? =some k):=zk (by simp[E]);obtain⟨ah,aj⟩:=(h.ext u).cells E;obtain⟨ac,ad⟩:=ab k E;have ae:=zk (u.cell hb);cases U:Do m (CL (pre k)) (DY (pre k));all_goals
     have J:=zk U;clear U;go_wp2_with fail
     refine(AeB b m _ _ _ ae aa ac ad).mono ?_;rintro e w'⟨rfl,V⟩;rw[J.out];have Z:=u.trans V;clear V;go_wp2
    go_roundw;case rel=>exact⟨k+1,Ad,by go_num,DU H T J,Z⟩
    case measure=>simp[intOf];omega
    go_ret;exact⟨Bn (by rw[CM,Gq H T J]),Z⟩
  go_wp2;go_ret;refine⟨Bn ?_,u⟩;have:=H.out;rw[CI AG E]at this;rw[CM,this]
def Qe(g n pre b)(m:Nat)(w)(h:DB w g n pre)(hb:w.cell? b=some (.int .u32 m))(J:m<65536)(O:∀i,i<n->CL (pre i)<65536/\DY (pre i)<65536)(T:n<=1000000):AC 125 #[.slice g n n,.func (.func 124) #[] #[.pointer (some b)]] w λe w'=>e=.returned (.bool ((List.range n).any (λi=>Do m (CL (pre i)) (DY (pre i)))))/\Ae w w':=by
 have H:decide (0<=CM (λi=>Do m (CL (pre i)) (DY (pre i))) (List.range n))=(List.range n).any (λi=>Do m (CL (pre i)) (DY (pre i))):=by
  cases E:(List.range n).any (λi=>Do m (CL (pre i)) (DY (pre i)))with
  |true=> rw[z8];rw[y7]at E;obtain⟨i,hi,U⟩:=E;rcases Int.lt_or_le (CM (λi=>Do m (CL (pre i)) (DY (pre i))) (List.range n)) 0 with u|u;rw[TF,yz]at u;have:=u i hi;simp[U]at this;exact u
  |false=>
   rw[aah];intro u;rw[xm]at E;have:CM (λi=>Do m (CL (pre i)) (DY (pre i))) (List.range n)<0:=by rw[TF,yz];intro i hi;simpa using E i hi
   omega
 have V:=zk H;clear H;go_enter func125,ntmps125;go_wp2_with fail
 refine(YL g n pre b m w h hb J O T).mono ?_;rintro e aa⟨rfl,Z⟩;go_wp2_with fail
 go_ret;exact⟨Bo V,Z⟩
section
open Go.Shelf
attribute [local go_sem] acz
abbrev Ab1:={m:Nat//m<65536}
def NY(H:TypeId->Bool)(W W':Aj):Prop:=W.heap.size<=W'.heap.size/\∀(k:Nat)(u)(t)(E),H t=true->W.heap[k]? =some (.cells u t E)->W'.heap[k]? =some (.cells u t E)
def NY.trans{u A B C}(h:NY u A B)(k:NY u B C):NY u A C:=⟨z7 h.1 k.1,λi E t H J hi=>k.2 i E t H J (h.2 i E t H J hi)⟩
def NY.J{E A B}(h:NY E A B){g t u}(hb:Aq A g t u)(H:E t=true):Aq B g t u:=h.2 g u t (0,0) H hb
def NY.bE{u A B}(h:NY u A B){g n pre}(E:DB A g n pre)(H:u 221=true):DB B g n pre:=let⟨J,O,T⟩:=E;⟨J,h.J O H,T⟩
def Aaf{w w'}(h:Ae w w'):w.grownBy w' none:=⟨h.os,h.tape,h.output,h.size,λk u _=>h.block k u⟩
def NQ{E B u}(H:AbidesFrom B u){s:E}{w w'}(h:u s w)(J:Ae w w'):u s w':=H s w w' none h (Aaf J) (λr e=>by cases e)
def AaB(k)(u:k<=16):(2:Int)^k%4294967296=((2^k:Nat):Int):=by have E:2^k<=2^16:=aa1 Ax u;have e:(2:Int)^k=((2^k:Nat):Int):=AG;rw[e];generalize 2^k=p at E⊢;omega
def Aa9{L}{m n:Nat}(H:n<=16)(U:m<2^n)(V:∀c∈L,∀l∈c,l≠0/\-(n:Int)<=l/\l<=n):((List.range L.length).any λi=>Do m (CL (L.getD i [])) (DY (L.getD i [])))=!decide (Db L (Ej m n)<0):=by
 have key:∀i,i<L.length->Do m (CL (L.getD i [])) (DY (L.getD i []))=!CF (L.getD i []) (Ej m n):=λi hi=>by
  have u:L.getD i []=L[i]:=by rw[yc,zr hi];rfl
  rw[u];exact YE H U (V _ (aak hi))
 by_cases E:Db L (Ej m n)<0;rw[zt E];rw[IX]at E;rw[xm.2];rfl;intro i hi;have J:=zv.1 hi;rw[key i J];have u:L.getD i []=L[i]:=by rw[yc,zr J];rfl
 rw[u,E _ (aak J)];decide;rw[zn E];obtain⟨c,O,T⟩:∃c,c∈L/\¬CF c (Ej m n)=true:=aad λH=>(λh=>E (IX.2 h)) (λc O=>aad λT=>H ⟨c,O,T⟩);obtain⟨i,hi,rfl⟩:=List.mem_iff_getElem.1 O;rw[y7.2];rfl;refine⟨i,zv.2 hi,?_⟩;rw[key i hi];have u:L.getD i []=L[i]:=by rw[yc,zr hi];rfl
 rw[u];simpa using T
def Xs{l v}(h:AV l v=0):l≠0/\-v<=l/\l<=v:=by unfold AV at h;(repeat' split at h)<;>simp_all
def VP{v L}(h:BC v L):∀c∈L,∀l∈c,l≠0/\-v<=l/\l<=v:=λc u l E=>Xs ((Qs ((PQ (Sp h).2.2).2 c u).1).2.2 l E)
def Ns(n:Nat)(L:AT)(k:Nat):List Nat:=(List.range k).filter λm=>decide (Db L (Ej m n)<0)
def Ux(n L k):Ns n L (k+1)=Ns n L k++if Db L (Ej k n)<0 then[k]else[]:=by unfold Ns;rw[xi,y5];by_cases h:Db L (Ej k n)<0<;>simp[h]
def Ws (n L) {j k} (h : j ≤ k) : ∃ t, Ns n L j ++ t = Ns n L k := by
  induction k with
  | zero => obtain rfl : j = 0 := Ad
            exact ⟨[], AG⟩
  | succ k u =>
    by_cases E : j = k + 1
    subst E; exact ⟨[], AG⟩
    obtain ⟨t, H⟩ := u Ad
    rw [Ux, ← H]
    exact ⟨_, (yy _ _ _).symm⟩
def AeD(n:Nat)(ba:1<=n)(l:Nat)(ah:Nat)(v:Int)(A:Option Addr)(aj c:Nat)(L:List (List Int))(E az:List Ab1->World->Prop)(W:World)(aM:aj<=1000000)
 (aA:W.cell? ⟨ah,0,none⟩=some (.int .i64 v))(aB:W.cell? ⟨ah,1,none⟩=some (.slice A aj c))(ak:Bf W A aj L)(al:AbidesFrom W.heap.size E)
 (aN:∀pre x am,E pre am->pre.length<(Fw v L).length->YieldAt Fence.wide (n-1) prog l #[.int .u32 (x:Ab1).1] am λe W'=>
  (e=.returned (.bool true)/\E (pre++[x]) W'/\NY (λt=>t==221) am W')\/(e=.returned (.bool false)/\az (pre++[x]) W'))
 (aO:E [] W)(J:BC v L):
 CallsIn Fence.wide n prog 122 #[.func (.yield l) #[] #[],.pointer (some ⟨ah,0,none⟩)] W λe W'=>(∃v,e=.returned v)/\
  ((∃aC,aC.map Subtype.val=Fw v L/\E aC W')\/(∃pre:List Ab1,(∃k,k<(Fw v L).length/\pre.map Subtype.val=(Fw v L).take (k+1))/\az pre W')):=by
 obtain⟨aD,aP,_⟩:=Sp J
 obtain⟨u,rfl⟩:=y1 aD
 have an:=VP J
 have V:Hid (Fw u L=Ns u L (2^u)):=by unfold Hid Fw Ns;rw[Int.toNat_natCast]
 have aQ:=J
 have ao:u<=16:=by omega
 have aq:=AaB u ao
 have aR:2^u<=65536:=aa1 Ax ao
 have aE:=zk (λm(aS:m<2^u)=>Aa9 (m:=m) ao aS an)
 have aF:(∀c∈L,∀l∈c,l≠0/\-16<=l/\l<=16):=λc J l Z=>by have:=an c J l Z;omega
 have aG:(∀i,i<L.length->CL (L.getD i [])<65536/\DY (L.getD i [])<65536):=λi hi=>by
  have aT:L.getD i []=L[i]:=by rw[yc,zr hi];rfl
  rw[aT]
  have ad:=aF _ (aak hi)
  exact⟨WC λl Z=>(ad l Z).2.2,ZN λl Z=>(ad l Z).2.1⟩
 have aH:L.length<=1000000:=by have:=ak.1;omega
 clear J an aD aP
 obtain⟨N,aI⟩:∃N,2^u=N:=⟨_,rfl⟩
 rw[aI]at aq aR V aE
 clear aI
 refine callsIn_of_wp func122 rfl trivial ?_ rfl
 simp only[ntmps122,List.size_toArray,List.length_cons,List.length_nil,Nat.reduceAdd,Nat.reduceSub,acr,Array.replicate_zero,ada,acw,List.nil_append,List.cons_append]
 gi_wp2_with(first
  |(refine⟨trivial,?_⟩;gi_at_call 54;refine((aa7 (n:=n-1)).2 (Uo (u:Int) _ _ _ L _ ak aQ)).mono ?_;rintro e bc⟨rfl,ae⟩;have aJ:=ae.cell aA;have aU:=ae.cell aB;skip)
  |(refine⟨trivial,?_⟩;gi_at_call 123;refine((aa7 (n:=n-1)).2 (Agi (u:Int) _ _ _ L _ (ak.ext ae) aM aF)).mono ?_;rintro e w2⟨g,rfl,bd,aV,au⟩;have aW:=ae.trans au;have d0:=au.cell aJ;clear au aJ aU))
 have aX:E [] w2:=NQ al aO aW
 clear d0 aA aB
 rw[aq]
 clear aq
 gi_loopw[4,5,14](λ_ _ i wr=>∃(k:Nat)(pre:List Ab1),k<=N/\i=.int .u32 k/\pre.map Subtype.val=Ns u L k/\E pre wr/\DB wr g L.length (λi=>L.getD i []))(λ_ _ i _=>N-(intOf i).toNat)
 case atStart=>exact⟨0,[],zx _,rfl,rfl,aX,aV⟩
 case round=>
  obtain⟨k,pre,be,rfl,aK,av,aY⟩:=hrel
  have aa:=zk aK
  clear aK
  by_cases aZ:k<N
  have H:=Ux u L k
  have O:=aE k aZ
  have a1:pre.length=(Ns u L k).length:=by
   have ad:(pre.map Subtype.val).length=(Ns u L k).length:=by rw[aa.out]
   rwa[z2]at ad
  have bf:IntKind.u32.wrap ((k:Int)+1)=(k:Int)+1:=IntWalk.u32_in _ Ad
  have aw:=(Ae.refl wr).alloc (Obj.cells #[.int .u32 (k:Int)] 219)
  have ax:=BD wr (.int .u32 (k:Int)) 219
  have af:=aY.ext aw
  cases T:decide (Db L (Ej k u)<0)with
  |false=>
   have ab:¬Db L (Ej k u)<0:=by simpa using T
   rw[zo ab,yg]at H
   rw[T]at O
   have ay:=zk O
   have ac:=zk H
   clear H O T ab
   gi_wp2_with(refine⟨trivial,?_⟩;gi_at_call 125;refine((aa7 (n:=n-1)).2 (Qe g L.length (λi=>L.getD i []) _ k _ af ax Ad aG aH)).mono ?_;rintro e aL⟨rfl,U⟩;rw[ay.out];skip)
   refine⟨λ_ h=>(by cases h),?_⟩
   gi_wp2
   go_roundw
   case rel=>exact⟨k+1,pre,Ad,by go_num,by rw[ac.out];exact aa,NQ al av (aw.trans U),af.ext U⟩
   case measure=>simp[intOf];omega
  |true=>
   have ab:Db L (Ej k u)<0:=by simpa using T
   rw[zq ab]at H
   rw[T]at O
   have a5:pre.length<(Fw u L).length:=by
    obtain⟨t,ag⟩:=Ws u L (show k+1<=N by omega)
    rw[V.out,<-ag,H,a1];simp
   have ay:=zk O
   have ac:=zk H
   clear H O T ab
   gi_wp2_with(refine⟨trivial,?_⟩;gi_at_call 125;refine((aa7 (n:=n-1)).2 (Qe g L.length (λi=>L.getD i []) _ k _ af ax Ad aG aH)).mono ?_;rintro e aL⟨rfl,U⟩;rw[ay.out];have bh:=U.cell ax;obtain⟨fn,bi,assign,body,bj,a6⟩:=aN pre ⟨k,Ad⟩ aL (NQ al av (aw.trans U)) a5;skip)
   refine a6.mono ?_
   rintro e bk(⟨rfl,a7,a8⟩|⟨rfl,a9⟩)
   gi_wp2
   go_roundw
   case rel=>exact⟨k+1,pre++[⟨k,Ad⟩],Ad,by go_num,by rw[yo,aa.out,ac.out];rfl,a7,a8.bE (af.ext U) rfl⟩
   case measure=>simp[intOf];omega
   gi_wp2
   refine yw (results_none rfl _ _ _) rfl ?_
   obtain⟨t,ag⟩:=Ws u L (show k+1<=N by omega)
   refine⟨⟨_,rfl⟩,.inr ⟨_,⟨(Ns u L k).length,?_,?_⟩,a9⟩⟩
   rw[V.out,<-ag,ac.out];simp
   rw[V.out,<-ag,ac.out,yo,aa.out]
   exact(ace AG).symm
  obtain rfl:k=N:=Ad
  gi_wp2
  go_end0
  exact⟨⟨_,rfl⟩,.inl ⟨pre,by rw[V.out];exact aa,av⟩⟩
def ZV(v L)(h:v<=16):(Fw v L).length<=65536:=by refine z7 (yl _ _) ?_;rw[y9];exact(aa1 Ax (by omega:v.toNat<=16):2^v.toNat<=2^16)
def Ahr(v A n c w):Calls prog 53 #[.agg #[.int .i64 v,.slice A n c]] w λe w'=>e=.returned (.func (.func 122) #[] #[.pointer w])/\w'=w.alloc (Obj.cells #[v,.slice A n c] 34):=by go_enter func53,ntmps53;go_wp2;go_ret;exact⟨rfl,rfl⟩
def Yn(n)(V:1<=n)(E v A u c L w)(Z:u<=1000000)(aa:Aq w E 34 #[.int .i64 v,.slice A u c])(ab:Bf w A u L)(ac:BC v L):SeqStopsK Fence.wide n prog 122 #[.pointer (some ⟨E,0,none⟩)] (λx:Ab1=>#[Value.int .u32 x.1]) (NY (λt=>t==221)) (λH=>H.map Subtype.val=Fw v L) (λpre=>∃k,k<(Fw v L).length/\pre.map Subtype.val=(Fw v L).take (k+1)) (Fw v L).length w:=λl ad ae W af ag _ ah aj=>by have T:=af;have hb:=aa.ext T;refine(AeD n V l E v A u c L ad ae W Z (hb.cell 0) (hb.cell 1) (ab.ext T) ag ah aj ac).mono ?_;rintro e W'⟨U,⟨H,J,O⟩|⟨pre,J,O⟩⟩;exact⟨U,.inl ⟨H,J,O⟩⟩;exact⟨U,.inr ⟨pre,J,O⟩⟩
end
section
open Go.Shelf
attribute [local go_sem] acz
def NY.setCell{H:TypeId->Bool}{W:Aj}{g:Nat}{t:TypeId}{O:Ck}(hb:Aq W g t O)(J:H t=false)(i:Nat)(u:Aw):NY H W (W.setCell ⟨g,i,none⟩ u):=by
 refine⟨by rw[xf];exact zs _,λk Z aa ab T E=>?_⟩;have U:k≠(⟨g,i,none⟩:Addr).block:=λe=>by have e':k=g:=e;subst e';unfold Aq at hb;rw[hb]at E;injection E with E;injection E with _ V _;rw[V,T]at J;cases J
 exact(yt W _ u k U).trans E
def NY.putObj(H:TypeId->Bool)(w W:Aj)(l:Nat)(o E:Obj)(_:w<=l)(h:W.heap[l]? =some o)(J:o.isCells=false)(_:o.isWalk=false):NY H W (W.putObj l E):=by refine⟨(grownBy_putObj' W l E).size,λk O t T _ u=>?_⟩;refine((grownBy_putObj' W l E).block k (z6.1 u).1 (λe=>?_)).trans u;cases e;rw[h]at u;cases u;cases J
def Wg{H:Type}(g:Nat)(t:TypeId)(f:H->Ck):Own (λs W=>Aq W g t (f s)):=λs X Y ze u J O=>(J.block g u.lt (λe=>by obtain⟨o,E,T⟩:=O g e.symm;rw[show X.heap[g]? =_ from u]at E;cases E;cases T)).trans u
def Abj(v:Int)(A:AD)(u c:Nat)(L:AT)(w:Aj)(ab:Bf w A u L)(ah:u<=1000000)(E:BC v L):AC 16 #[.agg #[v,.slice A u c]] w λe w'=>e=.returned (.tuple #[.int .i64 ((Fw v L).length:Nat),()])/\Ae w w':=by
 have T:=zk E;refine(aa7 (n:=3)).1 ?_;refine callsIn_of_wp_marks func16 rfl trivial ?_ rfl;simp only[ntmps16,List.size_toArray,List.length_cons,List.length_nil,Nat.reduceAdd,Nat.reduceSub,acr,Array.replicate_zero,ada,acw,List.nil_append,List.cons_append];gi_wp2_with(refine⟨trivial,?_⟩;gi_at_call 53;refine((aa7 (n:=2)).2 (Ahr v A u c _)).mono ?_;rintro e w'⟨rfl,rfl⟩)
 have U:=(((Ae.refl w).alloc (Obj.cells #[v,.slice A u c] 34)).alloc (Obj.cells #[()] 3)).alloc (Obj.cells #[v,.slice A u c] 34);have ac:=((Aq.new w 34 #[v,.slice A u c]).alloc (Obj.cells #[()] 3)).alloc (Obj.cells #[v,.slice A u c] 34);have V:=(Aq.new (w.alloc (Obj.cells #[v,.slice A u c] 34)) 3 #[()]).alloc (Obj.cells #[v,.slice A u c] 34);have Z:=Aq.new ((w.alloc (Obj.cells #[v,.slice A u c] 34)).alloc (Obj.cells #[()] 3)) 34 #[v,.slice A u c];rw[z3]at V;rw[z3,z3]at Z;have aj:(((w.alloc (Obj.cells #[v,.slice A u c] 34)).alloc (Obj.cells #[()] 3)).alloc (Obj.cells #[v,.slice A u c] 34)).heap.size=w+3:=AG;generalize((w.alloc (Obj.cells #[v,.slice A u c] 34)).alloc (Obj.cells #[()] 3)).alloc (Obj.cells #[v,.slice A u c] 34)=ad at U ac V Z aj⊢;refine wpIn_rangeFunc_ownG (F:=Fence.wide) rfl Ax (gf:=122) (lb:=#[.pointer (some ⟨w+1+1,0,none⟩)]) rfl trivial (enters_of func122 AJ rfl) (Yn 2 Ax (w+1+1) v A u c L ad ah Z (ab.ext U) T) NY.trans (NY.putObj _ ad) (Below.refl _ _) (λ_=>rfl) (λpre W=>(Aq W (w+1) 3 #[.int .i64 (pre.length:Nat)]/\Aq W w 34 #[v,.slice A u c])/\Below w w W) (λ_ _ _=>False) (OwnFrom.and (OwnFrom.and (Own.from (Wg _ _ _) _) (Own.from (Wg _ _ (λ_=>#[v,.slice A u c])) _)) (ownFrom_below (zs _) Ad)) (λ_ _ _ _ _ ak _ _=>ak) ⟨⟨V,ac⟩,U⟩ (λx=>{tmps:=#[.agg #[v,.slice A u c],.pointer w,(),(),.pointer (some ⟨w+1,0,none⟩),.agg #[v,.slice A u c],.func (.func 122) #[] #[.pointer (some ⟨w+1+1,0,none⟩)],.int .u32 x.1,undef,undef,undef,undef,undef],defers:=[]}) ?assign ?body ?done ?stop;case assign=> intro l x W K aa;gi_wp2;simpa using aa
 case body=> rintro l pre x W⟨⟨E,H⟩,J⟩ae;have al:=E.cell 0;have f0:=E.frozen 0;have aw:=ZV v L T.2;have ax:IntKind.i64.wrap ((pre.length:Int)+1)=(pre.length:Int)+1:=z5 _ Ad;gi_wp2;refine⟨(KeepsOthers.setCell _ _ _).from _,NY.setCell E rfl 0 _,⟨?_,H.ar AG _⟩,J.setCell (p:=⟨w+1,0,none⟩) AG _⟩;have:=E.ad 0 (.int .i64 ((pre.length:Int)+1));rw[zu];exact this
 case done=>
  rintro D am W ay an⟨⟨E,H⟩,J⟩aa;have ae:am.length=(Fw v L).length:=by rw[<-an,z2]
  rw[ae]at E;have al:=E.cell 0;have d0:=H.cell 0;have d1:=H.cell 1;have af:=zk aa;have ao:=ab.ext (show Ae w W from J);have aq:Ae w W:=J;gi_wp2;refine wpIn_wide.2 ?_;go_region_held3(λw'=>w'.cell? ⟨w+1,0,none⟩=some (.int .i64 ((Fw v L).length:Nat))/\w'.cell? w=some v/\w'.cell? ⟨w,1,none⟩=some (.slice A u c)) (first|with_reducible assumption|(go_split_ands;refine⟨?_,?_,?_⟩<;>(repeat(first|with_reducible assumption|(refine Ae.cell ?_ (by assumption))|with_reducible apply Ae.drew|with_reducible exact Ae.refl _)))) (first|(go_at_call 54;(with_reducible refine(Uo v _ _ _ L _ (Bf.ext ao ?_) T.out).mono ?_);(repeat(first|with_reducible exact Ae.refl _|with_reducible apply Ae.alloc|with_reducible apply Ae.drew|with_reducible apply Ae.drewN|(apply Ae.trans';assumption)));rintro e O⟨rfl,az⟩;have aA:=(show Ae W O by(repeat(first|with_reducible exact Ae.refl _|with_reducible apply Ae.alloc|with_reducible apply Ae.drew|with_reducible apply Ae.drewN|(apply Ae.trans';assumption)))).cell d1))
  gi_wp2;have ag:Ae W O:=by(repeat(first|with_reducible exact Ae.refl _|with_reducible apply Ae.alloc|with_reducible apply Ae.drew|with_reducible apply Ae.drewN|(apply Ae.trans';assumption)))
  have au:O.heap[D]? =some (.deferred (some [])):=(ag.block D (z6.1 af).1).trans af;refine⟨AG,.inl ⟨_,_,rfl,run_takeDeferred au,?_⟩⟩;refine⟨.tuple #[.int .i64 ((Fw v L).length:Nat),()],by simp[results,results16,go_sem],rfl,?_⟩;exact(aq.trans ag).grown (grownBy_putObj' O D _) (λk e=>by cases e;omega)
 case stop=> rintro D c pre W _ _ h _;exact h.elim
end
