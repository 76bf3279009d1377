import Derived.Test.YtdmempceikifeaaGreatShelf
import Derived.Test.YtdmempceikifeaaGreatA02
import Derived.OneCell
set_option maxRecDepth 100000
set_option maxHeartbeats 16000000
set_option linter.all false
namespace Go.Proofs.YtdmempceikifeaaGreat
open Go.RowKit Tryz
def FR(n u:Nat):Nat:=u&&&(2^n-u)
def Aa3(n):∀y,y<2^n->y&&&(2^n-1-y)=0:=by
 induction n with
 |zero=>simp_all
 |succ n u=>
  intro y E;have H:2^(n+1)=2*2^n:=by rw[abi];omega
  have J:=u (y/2) (by omega);apply acs;grind
def Nk(n y)(h:y<=2^n):FR (n+1) (2*y)=2*FR n y:=by
 unfold FR;have J:2^(n+1)=2*2^n:=by rw[abi];omega
 apply acs;intro i;cases i with
 |zero=>simp_all
 |succ i=>
  rw[acg,abo,abo,abo];have u:2*y/2=y:=by omega
  have E:(2^(n+1)-2*y)/2=2^n-y:=by omega
  have H:2*(y&&&2^n-y)/2=(y&&&2^n-y):=by omega
  rw[u,E,H,acg]
def Pn(n y)(h:y<2^n):FR (n+1) (2*y+1)=1:=by
 unfold FR;have H:2^(n+1)=2*2^n:=by rw[abi];omega
 apply acs;intro i;cases i with
 |zero=> grind
 |succ i=>
  rw[acg,abo,abo,abo];have u:(2*y+1)/2=y:=by omega
  have E:(2^(n+1)-(2*y+1))/2=2^n-1-y:=by omega
  rw[u,E,<-acg,Aa3 n y h]
theorem GR:∀k n,k<n->FR n (2^k)=2^k
 |0,n+1,_=>by have:=Pn n 0 (ac0 n);omega
 |k+1,n+1,h=>by have u:2^k<=2^n:=aa1 (by omega) (by omega);rw[show 2^(k+1)=2*2^k by rw[abi];omega,Nk n _ u,GR k n (by omega)]
def MQ:∀k n u,k<n->0<u->u<2^k->FR n (u+2^k)=FR n u
 |0,_,u,_,J,O=>by omega
 |k+1,n+1,u,h,J,O=>by
  have e:2^(k+1)=2*2^k:=by rw[abi];omega
  have U:2^(k+1)<=2^n:=aa1 (by omega) (by omega);rcases Nat.mod_two_eq_zero_or_one u with T|T;have E:u=2*(u/2):=by omega
  have H:u+2^(k+1)=2*(u/2+2^k):=by omega
  rw[H,Nk n _ (by omega),MQ k n (u/2) (by omega) (by omega) (by omega)];conv=>rhs;rw[E,Nk n _ (by omega)]
  have E:u=2*(u/2)+1:=by omega
  have H:u+2^(k+1)=2*(u/2+2^k)+1:=by omega
  rw[H,Pn n _ (by omega)];conv=>rhs;rw[E,Pn n _ (by omega)]
def Dh(s:Nat×Nat):Nat×Nat:=if FR 64 s.1=s.2 then(s.1+1,1)else(s.1,2*s.2)
def Cq:Nat->Nat×Nat
 |0=>(1,1)
 |n+1=>Dh (Cq n)
def ND:∀k,k<63->(∀n,n<2^(k+1)-1->0<(Cq n).1/\(Cq n).1<=2^k/\0<(Cq n).2/\((Cq n).1=2^k->n+1<2^(k+1)-1->(Cq n).2<2^k))/\Cq (2^(k+1)-2)=(2^k,2^k)
 |0,_=>by grind[Cq]
 |k+1,aj=>by
  obtain⟨hb,V⟩:=ND k (by omega);have ac:2^(k+1)=2*2^k:=by rw[abi];omega
  have ak:2^(k+1+1)=4*2^k:=by rw[abi,ac];omega
  have al:=ac0 k;have ad:Cq (2^(k+1)-1)=(2^k+1,1):=by rw[show 2^(k+1)-1=(2^(k+1)-2)+1 by omega];show Dh (Cq _)=_;rw[V,Dh,zq (GR k 64 (by omega))]
  have Z:∀m,m<2^(k+1)-1->Cq (2^(k+1)-1+m)=((Cq m).1+2^k,(Cq m).2):=by
   intro m;induction m with
   |zero=>intro _;rw[Nat.add_zero,ad];simp[Cq,ac1]
   |succ m ae=>
    intro E;obtain⟨H,aa,J,u⟩:=hb m (by omega);rw[<-ad2];show Dh (Cq (2^(k+1)-1+m))=_;rw[ae (by omega)];show Dh _=((Dh (Cq m)).1+2^k,(Dh (Cq m)).2);by_cases O:(Cq m).1=2^k;have am:=u O (by omega);have T:FR 64 (Cq m).1=2^k:=by rw[O];grind[GR]
    have U:FR 64 ((Cq m).1+2^k)=2^(k+1):=by rw[O,show 2^k+2^k=2^(k+1)by omega];grind[GR]
    simp only[Dh,T,U];rw[zo (by omega),zo (by omega)];have T:=MQ k 64 (Cq m).1 (by omega) H (by omega);simp only[Dh,T];split<;>simp<;>omega
  have ab:Cq (2^(k+1+1)-2)=(2^(k+1),2^(k+1)):=by
   rw[show 2^(k+1+1)-2=(2^(k+1)-1+(2^(k+1)-2))+1 by omega];show Dh (Cq _)=_;rw[Z _ (by omega),V];have U:FR 64 (2^k+2^k)=2^(k+1):=by rw[show 2^k+2^k=2^(k+1)by omega];grind[GR]
   simp only[Dh,U];rw[zo (by omega)];grind
  refine⟨λn an=>?_,ab⟩;by_cases af:n<2^(k+1)-1;obtain⟨H,aa,J,u⟩:=hb n af;omega;by_cases ag:n=2^(k+1+1)-2;subst ag;rw[ab];omega;obtain⟨m,rfl⟩:∃m,n=2^(k+1)-1+m:=⟨n-(2^(k+1)-1),by omega⟩;have E:m<2^(k+1)-1:=by omega
  obtain⟨H,aa,J,u⟩:=hb m E;rw[Z m E];refine⟨by omega,by omega,J,λh _=>?_⟩;simp only at h⊢;by_cases ah:m+1<2^(k+1)-1;have:=u (by omega) ah;omega;have:m=2^(k+1)-2:=by omega
  simp_all
def AbJ(k)(H:k<63):∀m,m<2^(k+1)-1->Cq (2^(k+1)-1+m)=((Cq m).1+2^k,(Cq m).2):=by
 obtain⟨hb,J⟩:=ND k H;have aa:2^(k+1)=2*2^k:=by rw[abi];omega
 have ab:=ac0 k;have O:Cq (2^(k+1)-1)=(2^k+1,1):=by rw[show 2^(k+1)-1=(2^(k+1)-2)+1 by omega];show Dh (Cq _)=_;rw[J,Dh,zq (GR k 64 (by omega))]
 intro m;induction m with
 |zero=>intro _;rw[Nat.add_zero,O];simp[Cq,ac1]
 |succ m T=>
  intro ac;obtain⟨U,ad,ae,V⟩:=hb m (by omega);rw[<-ad2];show Dh (Cq (2^(k+1)-1+m))=_;rw[T (by omega)];show Dh _=((Dh (Cq m)).1+2^k,(Dh (Cq m)).2);by_cases u:(Cq m).1=2^k;have af:=V u (by omega);have E:FR 64 (Cq m).1=2^k:=by rw[u];grind[GR]
  have Z:FR 64 ((Cq m).1+2^k)=2^(k+1):=by by_cases ag:k+1<64;rw[u,show 2^k+2^k=2^(k+1)by omega];grind[GR];omega
  simp only[Dh,E,Z];rw[zo (by omega),zo (by omega)];have E:=MQ k 64 (Cq m).1 (by omega) U (by omega);simp only[Dh,E];split<;>simp<;>omega
def Eh(i:Nat):Nat:=(Cq (i-1)).2
theorem XO(k)(u:k<63):Eh (2^(k+1)-1)=2^k:=by unfold Eh;rw[show 2^(k+1)-1-1=2^(k+1)-2 by omega,(ND k u).2]
theorem YJ(k i)(u:k<63)(H:2^(k+1)<=i)(J:i+1<2^(k+2)):Eh i=Eh (i+1-2^(k+1)):=by
 have O:2^(k+2)=2*2^(k+1):=by rw[abi (n:=2) (m:=k+1)];omega
 unfold Eh;obtain⟨m,E⟩:∃m,i-1=2^(k+1)-1+m:=⟨i-1-(2^(k+1)-1),by omega⟩;rw[E,AbJ k u m (by omega),show i+1-2^(k+1)-1=m by omega]
def Acf(j i)(u:j<60)(E:2^j<=i)(H:i<2^(j+1)):(i+1=2^(j+1)->Eh i=2^j)/\(i+1≠2^(j+1)->Eh i=Eh (i+1-2^j)/\i+1-2^j<i/\1<=i+1-2^j):=by
 refine⟨λh=>?_,λh=>?_⟩;rw[show i=2^(j+1)-1 by omega];grind[XO];cases j with
 |zero=>omega
 |succ k=> have J:=ac0 k;grind[Nat.pow_succ,YJ]
def Agk(i:Nat)(u:1<=i)(E:i<2^60):Nat.log2 i<60/\2^Nat.log2 i<=i/\i<2^(Nat.log2 i+1):=by have a:=Nat.log2_self_le (n:=i) (by omega);have b:=Nat.lt_log2_self (n:=i);refine⟨?_,a,b⟩;rcases aab (Nat.log2 i) 60 with h|h;exact h;have:=aa1 (n:=2) (by omega) h;omega
def Sq:∀n i,i<=n->1<=i->i<2^60->∃k,Eh i=2^k/\2^k<=i
 |0,i,E,u,_=>by omega
 |n+1,i,E,u,H=>by obtain⟨J,a,b⟩:=Agk i u H;obtain⟨t1,t2⟩:=Acf (Nat.log2 i) i J a b;by_cases h:i+1=2^(Nat.log2 i+1);exact⟨_,t1 h,a⟩;obtain⟨e,T,O⟩:=t2 h;obtain⟨k,e',U⟩:=Sq n (i+1-2^Nat.log2 i) (by omega) O (by omega);exact⟨k,by rw[e,e'],by omega⟩
theorem Pg(i)(u:1<=i)(E:i<2^60):1<=Eh i/\Eh i<=i:=by obtain⟨k,e,l⟩:=Sq i i (zs _) u E;have:=ac0 k;omega
def Aiy(n)(u:n<2^59):1<=(Cq n).2/\(Cq n).2<=n+1:=by have:=Pg (n+1) (by omega) (by omega);grind[Eh]
def Aih(n):1<=(Cq n).1/\(Cq n).1<=n+1:=by
 induction n with
 |zero=>simp[Cq]
 |succ n u=> show 1<=(Dh _).1/\(Dh _).1<=_;unfold Dh;split<;>simp<;>omega
def Ei:Nat->Nat
 |0=>0
 |n+1=>Ei n+Eh (n+1)
def UN(n)(h:n<2^28):n<=Ei n/\Ei n<=n*n:=by
 induction n with
 |zero=>simp[Ei]
 |succ n u=> grind[Pg,Nat.add_mul,Nat.mul_add,Ei]
def PI{a b}(h:a<=b):Ei a<=Ei b:=by
 induction b with
 |zero=>simp_all
 |succ b u=> rcases aab a (b+1)with E|E;have:=u (by omega);grind[Ei];grind
def PT(c u r:Int):Prop:=∃m,r=u*(Ei (m+1):Nat)/\c<r/\u*(Ei m:Nat)<=c/\(m:Int)<=c
def PT.uniq{c u r E}(T:1<=u)(h:PT c u r)(H:PT c u E):r=E:=by
 obtain⟨m,e,U,V,_⟩:=h;obtain⟨J,e',Z,aa,_⟩:=H;have key:∀a b,a+1<=b->u*(Ei b:Nat)<=c->¬(c<u*(Ei (a+1):Nat)):=λa b O ab ac=>by have:=PI O;have ad:u*(Ei (a+1):Nat)<=u*(Ei b:Nat):=abm (by omega) (by omega);omega
 rcases ad5 m J with h|h|h;grind;subst h;rw[e,e'];grind
def AcE(u:Nat)(h:1<=u)(E:u<2^62):bits .and .i64 (u:Int) (-(u:Int))=(FR 64 u:Nat):=by have H:FR 64 u<=u:=Nat.and_le_left;show IntKind.i64.wrap ((BitVec.ofInt 64 (u:Int)&&&BitVec.ofInt 64 (-(u:Int))).toNat:Int)=_;rw[BitVec.toNat_and,AaA u Ad,BitVec.toNat_ofInt];have e:(-(u:Int)%((2^64:Nat):Int)).toNat=2^64-u:=Ad;rw[e];show IntKind.i64.wrap ((FR 64 u:Nat):Int)=_;rw[IntKind.wrap_i64];omega
structure Ja(a b)(w w':Aj):Prop where
 os:w'.os=w.os
 tape:w'.tape=w.tape
 output:w'.output=w.output
 size:w.heap.size<=w'.heap.size
 block:∀k,k<w.heap.size->k≠a->k≠b->w'.heap[k]? =w.heap[k]?
def YV(w:Aj)(u E n:Nat):Prop:=w.heap[u]? =some (.cells #[.int .i64 ((Cq n).1:Nat)] 3 (0,0))/\w.heap[E]? =some (.cells #[.int .i64 ((Cq n).2:Nat)] 3 (0,0))/\u≠E
def Ja.below{a b B w w'}(h:Ja a b w w')(u:B<=a)(hb:B<=b)(E:B<=w):Below B w w':=⟨h.os,h.tape,h.output,h.size,λk H=>h.block k Ad Ad Ad⟩
def Ja.refl(a b w):Ja a b w w:=⟨rfl,rfl,rfl,zs _,λ_ _ _ _=>rfl⟩
def Ja.eV{a b w w'}(h:Ja a b w w')(u):Ja a b w (w'.setCell a u):=⟨h.os,h.tape,h.output,by simpa[World.setCell]using h.size,λk H E J=>(yt _ _ _ _ E).trans (h.block k H E J)⟩
def Ja.ee{a b w w'}(h:Ja a b w w')(u):Ja a b w (w'.setCell b u):=⟨h.os,h.tape,h.output,by simpa[World.setCell]using h.size,λk H J E=>(yt _ _ _ _ E).trans (h.block k H J E)⟩
def Qf(n J O w)(h:YV w J O n)(ac:n<1000000000):AC 225 #[.pointer O,.pointer J] w λe w'=>e=.returned (.int .i64 (Eh (n+1):Nat))/\YV w' J O (n+1)/\Ja J O w w':=by
 obtain⟨T,U,u⟩:=h;have ad:=cell_of_one T;have ae:=cell_of_one U;have af:=free_of_one T;have ag:=free_of_one U;have ab:=Aih n;have ah:=Aiy n Ad;have aj:=AcE (Cq n).1 ab.1 Ad;have Z:=zk T;have aa:=zk U;by_cases E:FR 64 (Cq n).1=(Cq n).2
 . have V:=zk E;have hb:(((FR 64 (Cq n).1:Nat):Int)==(((Cq n).2:Nat):Int))=true:=by rw[E];simp
   clear E;go_enter func225,ntmps225;go_wp2;go_ret;have H:Cq (n+1)=((Cq n).1+1,1):=by show Dh _=_;rw[Dh,zq V.out]
   refine⟨Bn (by simp[Eh]),⟨?_,?_,u⟩,((Ja.refl _ _ _).eV _).ee _⟩
   . rw[yt _ _ _ _ u,one_setCell Z,H];simp
   . rw[one_setCell ((yt _ _ _ _ (yb u)).trans aa),H];simp
 . have V:=zk E;have hb:(((FR 64 (Cq n).1:Nat):Int)==(((Cq n).2:Nat):Int))=false:=by rw[yv];omega
   clear E;go_enter func225,ntmps225;go_wp2;go_ret;have H:Cq (n+1)=((Cq n).1,2*(Cq n).2):=by show Dh _=_;rw[Dh,zo V]
   refine⟨Bn (by simp[Eh]),⟨?_,?_,u⟩,(Ja.refl _ _ _).ee _⟩;rw[yt _ _ _ _ u,Z.out,H];rw[one_setCell aa,H];simp;omega
def ZB(w):AC 144 #[] w λe w'=>e=.returned (.func (.func 225) #[] #[.pointer (some ⟨w+1,0,none⟩),.pointer w])/\YV w' w (w+1) 0/\Ae w w'/\w'.heap.size=w.heap.size+2:=by go_enter func144,ntmps144;go_wp2;go_ret;refine⟨rfl,⟨?_,?_,Ad⟩,((Ae.refl _).alloc _).alloc _,by simp⟩;exact(add _ _ _ AG).trans (aaf w _);have:=aaf (w.alloc (Obj.cells #[Value.int IntKind.i64 1] 3)) (Obj.cells #[Value.int IntKind.i64 1] 3);rw[z3]at this;exact this
def Gm(c u:Int):Prop:=c<0\/1000000<c\/u<1\/1000000<u
def AdR(c u:Int)(w:Aj)(e:Bz)(w':World):Prop:=∃r,e=.returned (.int .i64 r)/\(Gm c u/\r=0\/¬Gm c u/\PT c u r)/\Ae w w'
def Tw{u:Int}{k}(E:1<=u)(H:u<=1000000)(J:k<=1000001):1<=u*(Eh (k+1):Nat)/\u*(Eh (k+1):Nat)<=2000000000000:=by have hb:=Pg (k+1) Ad Ad;constructor;have:=abm (show(1:Int)<=(Eh (k+1):Nat)by omega) (show 0<=u by omega);omega;have a:=abm (show((Eh (k+1):Nat):Int)<=2000000 by omega) (show 0<=u by omega);omega
def Qm(c u:Int)(w:Aj):AC 84 #[c,u] w (AdR c u w):=by
 by_cases H:Gm c u
 . unfold Gm at H;go_enter func84,ntmps84;go_wp2;all_goals go_ret;exact⟨0,rfl,.inl ⟨H,rfl⟩,Ae.refl w⟩
 have ae:0<=c:=by unfold Gm at H;omega
 have aq:c<=1000000:=by unfold Gm at H;omega
 have E:1<=u:=by unfold Gm at H;omega
 have aa:u<=1000000:=by unfold Gm at H;omega
 skip;have J:=Tw (k:=0) E aa Ad;have af:=J.1;have ag:=J.2;have O:Eh (0+1)=1:=rfl;rw[O]at af ag;have ab:=zk O;clear J O;go_enter func84,ntmps84;go_wp2_with(first
  |(go_at_call 144;refine(ZB _).mono ?_;rintro e au⟨rfl,ah,ac,aj⟩;clear aj)
  |(go_at_call 225;refine(Qf 0 _ _ _ ah Ad).mono ?_;rintro e w2⟨rfl,T,U⟩;skip;rw[ab.out]))
 go_loopw[6](λs wr=>∃(k:Nat)(a:Int),s=a/\a=u*(Ei (k+1):Nat)/\u*(Ei k:Nat)<=c/\0<=a/\a<=3000000000000/\YV wr w (w+1) (k+1)/\Ae w wr)(λs _=>(c+1-intOf s).toNat);case atStart=>exact⟨0,_,rfl,by simp[Ei,ab.out],by simp[Ei,ae],Ad,Ad,T,Below.trans ac (U.below (B:=w) (zs _) Ad ac.size_le)⟩
 case round=>
  obtain⟨k,a,rfl,ad,ak,av,aw,al,V⟩:=hrel;have Z:=zk ad;have am:(k:Int)<=c:=by rcases aab k 1000001 with h|h;have:=(UN k Ad).1;have an:=adr E (show(0:Int)<=(Ei k:Nat)by omega);omega;have ax:=PI h;have ay:=(UN 1000001 Ad).1;have an:=adr E (show(0:Int)<=(Ei k:Nat)by omega);omega
  clear ad;by_cases ao:a<=c;have hb:=Tw (k:=k+1) E aa Ad;have az:=hb.1;have aA:=hb.2;clear hb;go_wp2_with(go_at_call 225;refine(Qf (k+1) _ _ _ al Ad).mono ?_;rintro e w2⟨rfl,T,U⟩;skip)
  go_roundw;case rel=>exact⟨k+1,_,rfl,by rw[Z.out];simp[Ei,Int.mul_add],by rw[<-Z.out];exact ao,Ad,Ad,T,Below.trans V (U.below (B:=w) (zs _) Ad V.size_le)⟩
  case measure=>simp only[intOf];omega
  go_wp2;go_ret;exact⟨a,rfl,.inr ⟨H,k,Z,Ad,ak,am⟩,V⟩
