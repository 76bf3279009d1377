import Derived.Test.YtdmempceikifeaaGreatA11a
set_option maxRecDepth 100000
set_option maxHeartbeats 16000000
set_option linter.all false
namespace Go.Proofs.YtdmempceikifeaaGreat
open Go.RowKit Tryz
def Agt(w:Aj):AC 263 #[.int .u64 1,.int .u64 0] w λe w'=>e=.returned (.tuple #[.int .u64 0,.int .u64 0])/\w=w':=by go_enter func263,ntmps263;go_wp2;go_ret2;exact⟨rfl,rfl⟩
def AiB(w:Aj):AC 175 #[.int .u64 1,.int .u64 0] w λe w'=>e=.returned (.tuple #[.int .u64 0,.int .u64 0])/\w=w':=by
 go_enter func175,ntmps175;go_wp2_with fail
 refine(Agt w).mono ?_;rintro e w'⟨rfl,rfl⟩;go_wp2;go_ret2;exact⟨rfl,rfl⟩
def AgH(w:Aj):AC 263 #[.int .u64 1,.int .u64 1] w λe w'=>e=.returned (.tuple #[.int .u64 0,.int .u64 1])/\w=w':=by go_enter func263,ntmps263;go_wp2;go_ret2;exact⟨rfl,rfl⟩
def Ain(w:Aj):AC 175 #[.int .u64 1,.int .u64 1] w λe w'=>e=.returned (.tuple #[.int .u64 0,.int .u64 1])/\w=w':=by
 go_enter func175,ntmps175;go_wp2_with fail
 refine(AgH w).mono ?_;rintro e w'⟨rfl,rfl⟩;go_wp2;go_ret2;exact⟨rfl,rfl⟩
def AfR(w:Aj):AC 263 #[.int .u64 1,.int .u64 2] w λe w'=>e=.returned (.tuple #[.int .u64 0,.int .u64 2])/\w=w':=by go_enter func263,ntmps263;go_wp2;go_ret2;exact⟨rfl,rfl⟩
def Aif(w:Aj):AC 175 #[.int .u64 1,.int .u64 2] w λe w'=>e=.returned (.tuple #[.int .u64 0,.int .u64 2])/\w=w':=by
 go_enter func175,ntmps175;go_wp2_with fail
 refine(AfR w).mono ?_;rintro e w'⟨rfl,rfl⟩;go_wp2;go_ret2;exact⟨rfl,rfl⟩
def Agy(w:Aj):AC 263 #[.int .u64 1,.int .u64 3] w λe w'=>e=.returned (.tuple #[.int .u64 0,.int .u64 3])/\w=w':=by go_enter func263,ntmps263;go_wp2;go_ret2;exact⟨rfl,rfl⟩
def AiL(w:Aj):AC 175 #[.int .u64 1,.int .u64 3] w λe w'=>e=.returned (.tuple #[.int .u64 0,.int .u64 3])/\w=w':=by
 go_enter func175,ntmps175;go_wp2_with fail
 refine(Agy w).mono ?_;rintro e w'⟨rfl,rfl⟩;go_wp2;go_ret2;exact⟨rfl,rfl⟩
def AfO(w:Aj):AC 263 #[.int .u64 1,.int .u64 4] w λe w'=>e=.returned (.tuple #[.int .u64 0,.int .u64 4])/\w=w':=by go_enter func263,ntmps263;go_wp2;go_ret2;exact⟨rfl,rfl⟩
def AiF(w:Aj):AC 175 #[.int .u64 1,.int .u64 4] w λe w'=>e=.returned (.tuple #[.int .u64 0,.int .u64 4])/\w=w':=by
 go_enter func175,ntmps175;go_wp2_with fail
 refine(AfO w).mono ?_;rintro e w'⟨rfl,rfl⟩;go_wp2;go_ret2;exact⟨rfl,rfl⟩
def AiJ(n:Nat)(w:Aj)(u:n<=4):AC 175 #[.int .u64 1,.int .u64 (n:Int)] w λe w'=>e=.returned (.tuple #[.int .u64 0,.int .u64 (n:Int)])/\w=w':=by rcases(by omega:n=0\/n=1\/n=2\/n=3\/n=4)with rfl|rfl|rfl|rfl|rfl;exact AiB w;exact Ain w;exact Aif w;exact AiL w;exact AiF w
def FJ(v:Int)(n j:Nat):List Aw:=List.replicate j (.int .i64 v)++List.replicate (n-j) (Value.int .i64 0)
def UA(v:Int){n j:Nat}(h:j<=n):(FJ v n j).length=n:=by unfold FJ;simp;omega
def Wa(v:Int){n j i:Nat}(h:i<j):(FJ v n j)[i]? =some (.int .i64 v):=by unfold FJ;rw[yh (by simpa using h),abn,zq h]
def Aac(v:Int)(n:Nat):(madeCells #[Value.int .i64 0] n).toList=FJ v n 0:=by apply ac9;intro i;unfold FJ madeCells;simp[abn,adv];by_cases h:i<n<;>simp[h]
def Oy(v:Int)(n j m:Nat):splice (FJ v n j) j (List.replicate m v)=FJ v n (j+m):=by
 unfold splice FJ;have u:(List.replicate j (Value.int .i64 v)++List.replicate (n-j) (Value.int .i64 0)).take j=List.replicate j (.int .i64 v):=by rw[ads (by simp),z1 AG]
 have E:(List.replicate j (Value.int .i64 v)++List.replicate (n-j) (Value.int .i64 0)).drop (j+(List.replicate m (Value.int .i64 v)).length)=List.replicate (n-(j+m)) (Value.int .i64 0):=by
  rw[aax,<-List.drop_drop];have:(List.replicate j (Value.int .i64 v)++List.replicate (n-j) (Value.int .i64 0)).drop j=List.replicate (n-j) (Value.int .i64 0):=by rw[List.drop_append_of_le_length AG,abt AG];simp
  rw[this,List.drop_replicate];congr 1;omega
 rw[u,E,<-yy,List.replicate_append_replicate]
def Ua(A:AD)(c:Nat)(v:Int)(n:Nat)(w:Aj)(h:AB w A 1 [v])(av:n<=4):AC 99 #[.slice A 1 c,n] w λe w'=>e=.returned (.slice w n n)/\Aq w' w 3 (FJ v n n).toArray/\Ae w w':=by
 have aL:∀W,(Instr.makeSlice 86 (.int .i64 (n:Int)) (.int .i64 (n:Int))).run prog W=.ok (.slice (some ⟨W.heap.size,0,none⟩) n n) (W.alloc (.cells (madeCells #[.int .i64 0] n) 3)):=λW=>by obtain⟨aw,hi,ax,ay,az⟩:=info_parts Jr;have:=Ci (P:=prog) 86 3 aw _ underlying86 hi ax .i64 .i64 n n (zs _) (by rw[az];omega) Ad W;rw[ay,abc]at this;exact this
 have u1:IntKind.u64.wrap (n:Int)=(n:Int):=by rcases(by omega:n=0\/n=1\/n=2\/n=3\/n=4)with rfl|rfl|rfl|rfl|rfl<;>decide
 have u2:IntKind.i64.wrap (n:Int)=(n:Int):=z5 _ Ad;have d1:decide ((Bh:Int)<(n:Int))=false:=zn Ad;obtain⟨V,aA,Z⟩:=h.2.2.2 Ad;subst aA;have aa:Ae w (w.alloc (.cells (madeCells #[()] n) 3)):=(Ae.refl _).alloc _;have ab:=aa.cell (Z 0 v rfl);have ac:=Aq.new w 3 (madeCells #[()] n);have aB:Hid ((w.alloc (.cells (madeCells #[.int .i64 0] n) 3)).heap[w.heap.size]? =some (.cells (FJ v n 0).toArray 3 (0,0))):=zk (by
  have e:(FJ v n 0).toArray=madeCells #[()] n:=by rw[<-Aac]
  rw[e];exact ac)
 have aC:Nat.min 1 n<=1:=Nat.min_le_left 1 n;have ad:Nat.min 1 n<=n:=Nat.min_le_right 1 n;have ae:0<n->Nat.min 1 n=1:=λh=>Nat.min_eq_left h;have af:=zk ae;obtain⟨q,T⟩:∃q,Nat.min 1 n=q:=⟨_,rfl⟩;rw[T]at aC ad af;have aD:=zk T;clear T ae;have aE:=zk ab;clear ab ac h Z;go_enter func99,ntmps99;go_wp2_with fail
 refine(AiJ n w av).mono ?_;rintro e aM⟨rfl,rfl⟩;go_wp2_with(refine wpList_copy_splice (o:=⟨some 33,_,_,_,_,_⟩) rfl (.tmp 31) (.tmp 32) 86 86 rfl 3 underlying86 AJ w (some V) n n 1 c rfl rfl w 0 (FJ v n 0) 3 aB.out (List.replicate q v) (by rw[aax,aD.out]) (λ_=>⟨rfl,V,rfl,λj u J=>by have ag:=(zl.1 J).1;rw[aax]at ag;have:j=0:=Ad;subst this;rw[abn,zq ag]at J;cases J;simpa[Addr.add]using aE.out⟩) (by rw[UA v (zx _),aax];omega) (by intro u U;rw[ab9 U];rfl) w w aa (zs _) ?_;intro aN aF aG;skip)
 go_loopw[8](λx wr=>∃j:Nat,x=j/\j<=n/\(0<n->0<j)/\Hid (wr.heap[w.heap.size]? =some (.cells (FJ v n j).toArray 3 (0,0)))/\Ae w wr)(λx _=>n-(intOf x).toNat);case atStart=> have E:=aF.out;rw[Oy,xv]at E;exact⟨q,AG,ad,λh=>by have:=af h;omega,zk E,aG⟩
 case round=>
  obtain⟨j,rfl,J,aH,ah,aj⟩:=hrel;by_cases aO:j<n
  . have aP:=aH Ad;have aQ:(j:Int)<(n:Int):=Ad;have aR:(j:Int)<=(n:Int):=Ad;have aS:(0:Int)<=(j:Int):=Ad;have aT:n-j≠0:=Ad;skip;go_wp2;obtain⟨m,H⟩:∃m,Nat.min j (n-j)=m:=⟨_,rfl⟩;have ak:m<=j:=by rw[<-H];exact Nat.min_le_left j (n-j)
    have al:m<=n-j:=by rw[<-H];exact Nat.min_le_right j (n-j)
    have am:0<m:=by rw[<-H];rcases Nat.le_total j (n-j)with h|h;have:Nat.min j (n-j)=j:=Nat.min_eq_left h;omega;have:Nat.min j (n-j)=n-j:=Nat.min_eq_right h;omega
    have aI:=zk H;have an:Hid (wr.drew.heap[w.heap.size]? =some (.cells (FJ v n j).toArray 3 (0,0))):=zk ah;have aJ:Hid (∀i u,(List.replicate m (Value.int .i64 v))[i]? =some u->wr.drew.cell? ((w:Addr).add i)=some u):=zk (λi u hi=>by have ao:=(zl.1 hi).1;rw[aax]at ao;rw[abn,zq ao]at hi;cases hi;rw[Of,xv,cell_of_row wr.drew w i (FJ v n j).toArray 3 (0,0) an,List.getElem?_toArray];exact Wa v Ad);have aU:(n≠j):=Ad;have O:=(⟨ak,al,am⟩:m<=j/\m<=n-j/\0<m);have aV:¬n=j:=Ad;clear H ak al am;have aW:IntKind.i64.wrap ((j:Int)+(m:Int))=(j:Int)+(m:Int):=z5 _ (by have:=O;omega);go_region_law((refine step_copy_splice rfl (.tmp 41) (.tmp 44) 86 86 rfl 3 underlying86 AJ (some ⟨w,j,none⟩) w (n-j) (n-j) j n (by go_simp) rfl w j (FJ v n j) 3 an.out (List.replicate m v) (by rw[aax,aI.out]) (λ_=>⟨rfl,_,rfl,aJ.out⟩) (by rw[UA v Ad,aax];have:=O;omega) (by intro u U;rw[ab9 U];rfl) w w aj.drew (zs _) ?_;intro aX aK aq;skip))
    all_goals
     have E:=aK.out;rw[Oy]at E;have au:j+m<=n:=by have:=O;omega
     have aY:0<m:=O.2.2;go_simp;go_roundw
    case rel=> first
      |exact⟨_,_,_,_,_,_,_,_,_,_,_,_,_,_,⟨j+m,rfl,au,λ_=>Ad,zk E,aq⟩,rfl⟩
      |(refine⟨.int .i64 ((j:Int)+(m:Int)),_,_,_,_,_,_,_,_,_,_,_,_,_,⟨j+m,by go_num,au,λ_=>Ad,zk E,aq⟩,?_⟩;rfl)
    case measure=>simp[intOf];omega
  obtain rfl:n=j:=Ad;skip;go_wp2;go_ret;exact⟨rfl,ah,aj⟩
def Kx(σ:Nat->Nat)(a k:Nat):Int:=match(List.range a).find? (λx=>σ x==k)with|some x=>(x:Int)|none=>-1
def Fc(σ:Nat->Nat)(n a:Nat):Ck:=((List.range n).map λk=>Value.int .i64 (Kx σ a k)).toArray
def Ui{σ:Nat->Nat}{n a:Nat}(hi:∀a b,a<n->b<n->σ a=σ b->a=b)(E:a<n):(List.range a).find? (λx=>σ x==σ a)=none:=by
 rw[y6];intro x u;have u:=zv.1 u;have:σ x≠σ a:=λe=>by have:=hi x a Ad E e;omega
 simpa using this
def RX{σ:Nat->Nat}{n a k:Nat}(hi:∀a b,a<n->b<n->σ a=σ b->a=b)(u:a<n):Kx σ (a+1) k=if σ a=k then(a:Int)else Kx σ a k:=by
 unfold Kx;rw[xi,aci];by_cases h:σ a=k;subst h;rw[Ui hi u,zq rfl];simp;rw[zo h];have:[a].find? (λx=>σ x==k)=none:=by simp[h]
 rw[this,Option.or_none]
def AbY{σ:Nat->Nat}{n a:Nat}(hi:∀a b,a<n->b<n->σ a=σ b->a=b)(u:a<n):Kx σ a (σ a)=-1:=by unfold Kx;rw[Ui hi u]
def AfL(σ:Nat->Nat){n a k:Nat}(u:k<n):(Fc σ n a)[k]? =some (.int .i64 (Kx σ a k)):=by unfold Fc;rw[List.getElem?_toArray,yd,aal u];rfl
def Aed{σ:Nat->Nat}{n a:Nat}(hi:∀a b,a<n->b<n->σ a=σ b->a=b)(u:a<n):(Fc σ n a).setIfInBounds (σ a) a=Fc σ n (a+1):=by
 apply acp;simp[Fc];intro i J E;have H:i<n:=by simpa[Fc]using E
 by_cases e:σ a=i;subst e;simp[Fc,RX hi u];rw[acc (by simpa[Fc]using H) e];simp[Fc,RX hi u,e]
def Aau(σ:Nat->Nat)(n:Nat):(FJ (-1) n n).toArray=Fc σ n 0:=by unfold FJ Fc Kx;congr 1;apply ac9;intro i;simp[abn];by_cases h:i<n<;>simp[h]
def AcX{σ:Nat->Nat}{n k:Nat}(u:∀a,a<n->σ a<n)(hi:∀a b,a<n->b<n->σ a=σ b->a=b)(E:k<n):Kx σ n k=(Ff n σ k:Int):=by
 obtain⟨H,J⟩:=FC u hi E;unfold Kx Ff;cases e:(List.range n).find? (λx=>σ x==k)with
 |some x=>rfl
 |none=> rw[y6]at e;have:=e _ (zv.2 H);rw[J]at this;simp at this
def If(σ:Nat->Nat)(n:Nat):An:=(List.range n).map λk=>((Ff n σ k:Nat):Int)
def AbF{σ:Nat->Nat}{n:Nat}(u:∀a,a<n->σ a<n)(hi:∀a b,a<n->b<n->σ a=σ b->a=b):Fc σ n n=((If σ n).map (Value.int .i64)).toArray:=by unfold Fc If;congr 1;rw[ac5];refine List.map_congr_left λk E=>?_;rw[AcX u hi (zv.1 E)];rfl
def Wf(s k:Nat):Int:=if s<k then(s:Int)else-1
def QK{s k:Nat}(h:s<k):Wf s k=s:=zq h
def Qt{s k:Nat}(h:k<=s):Wf s k=-1:=zo Ad
def Aiu{u:List Bool}{z:Int}(E:0<z)(H:z<=(u.length:Int)):∃k:Nat,z-1=(k:Int)/\k<u.length/\u[k]? =some (Gi u z):=by refine⟨(z-1).toNat,Ad,Ad,?_⟩;unfold Gi;rw[yc,zr (show(z-1).toNat<u.length by omega)];rfl
def Sc(n S:Nat)(A:AD)(U c:Nat)(ad:List Bool)(σ:Nat->Nat)(w:Aj)(V:n<=4)(ae:1<=S/\S<=32)(h:Bw w A U ad)(aG:ad.length=BJ n S) (am:∀a,a<n->σ a<n)(hi:∀a b,a<n->b<n->σ a=σ b->a=b)(aH:∀a,a<n->∀k,k<n->Gi ad (Cx n a k)=decide (σ a=k)):AC 35 #[.agg #[n,S],.slice A U c] w λe w'=>∃(D:AD)(c':Nat),e=.returned (.tuple #[.slice D n c',true])/\AB w' D n (If σ n)/\Ae w w':=by
 have u:Ae w (w.alloc (.cells #[n,S] 67)):=(Ae.refl _).alloc _;have hb:=Aq.new w 67 #[n,S];generalize a6:w.alloc (.cells #[n,S] 67)=af at *;have E:=hb.cell 0;have Z:=hb.cell 1;have an:U=BJ n S:=by have:=h.1;omega
 have aI:=zk an;have H:=h.ext u;have a7:=u;have O:=hb;have ag:=zk hi;have a8:=zk aH;have ao:=zk aG;have a9:=FE V ae.2;have bC:U<=180:=Ad;have aJ:=λW=>LZ n S W V ae;rw[<-an]at aJ;clear h u hb hi aH aG an a9;go_enter func35,ntmps35;go_wp2_with fail
 refine(EL n S af V ae).mono ?_;rintro e ba⟨rfl,aq⟩;have E:=aq.cell (O.cell 0);have Z:=aq.cell (O.cell 1);clear a6;go_wp2_with fail
 refine(aJ ba).mono ?_;rintro e w2⟨rfl,aK⟩;have aL:=aq.trans aK;have aM:=O.ext aL;have ah:Ae w2 (w2.alloc (.cells #[.int .i64 (-1)] 3)):=(Ae.refl _).alloc _;have aN:AB (w2.alloc (.cells #[.int .i64 (-1)] 3)) w2 1 [-1]:=Ka #[.int .i64 (-1)] 3 [-1] 1 rfl rfl Ax AG w2 _ rfl;generalize bc:w2.alloc (.cells #[.int .i64 (-1)] 3)=au at *;have E:=ah.cell (aM.cell 0);have Z:=ah.cell (aM.cell 1);have bd:=aN;have aO:=aL.trans ah;clear aK ah aN;go_wp2_with fail
 refine(Ua _ _ (-1) n au bd V).mono ?_;rintro e bD⟨rfl,av,aP⟩;rw[Aau σ]at av;have be:=av;have aQ:=aO.trans aP;have bf:(af.heap.size<=au.heap.size):=aO.size;have E:=aQ.cell (O.cell 0);clear aP av bc Z;generalize au=g at *;go_wp2;clear E;go_loopw[26](λv wr=>∃a:Nat,v=a/\a<=n/\Aq wr g 3 (Fc σ n a)/\Ae af wr)(λv _=>n-(intOf v).toNat);case atStart=>exact⟨0,rfl,zx _,be,aQ⟩
 case round=>
  obtain⟨a,rfl,bE,aa,J⟩:=hrel;by_cases ab:a<n
  . have bF:(a:Int)<(n:Int):=Ad;have bG:(0:Int)<=(a:Int):=Ad;have E:=J.cell (O.cell 0);obtain⟨s,T⟩:∃s,σ a=s:=⟨_,rfl⟩;have aw:s<n:=by rw[<-T];exact am a ab
    have bh:=zk T;have bi:Hid (Kx σ a s=-1):=zk (by rw[<-T];exact AbY ag ab);have bj:Hid ((Fc σ n a).setIfInBounds s a=Fc σ n (a+1)):=zk (by rw[<-T];exact Aed ag ab);clear T;go_wp2;clear E;go_loopw[8,31](λat_ v wr=>∃k:Nat,v=k/\k<=n/\at_=(Wf s k)/\Aq wr g 3 (if s<k then Fc σ n (a+1)else Fc σ n a)/\Ae af wr)(λ_ v _=>n-(intOf v).toNat);case atStart=>exact⟨0,rfl,zx _,by rw[Qt (zx _)],by simpa using aa,J⟩
    case round=>
     obtain⟨k,rfl,aR,rfl,aa,J⟩:=hrel;have aS:=zk J;by_cases aT:k<n
     . have bH:(k:Int)<(n:Int):=Ad;have bI:(0:Int)<=(k:Int):=Ad;have E:=J.cell (O.cell 0);have Z:=J.cell (O.cell 1);have ax:=I5 n S 1 a k wr V ae ⟨Ax,Ax⟩ (by unfold Cj;simp;omega) (by unfold Cj;simp;omega);rw[JD]at ax;have aU:=zk ax;obtain⟨z,aj⟩:∃z,Cx n a k=z:=⟨_,rfl⟩;have ay:0<z/\z<=(ad.length:Int):=by rw[<-aj,ao.out];exact⟨Dv _ _ _,(Mh (S:=S) ab aT).2⟩
       have az:=a8 a ab k aT;rw[aj]at az;rw[aj]at aU;obtain⟨i,aV,bk,aA⟩:=Aiu ay.1 ay.2;rw[az]at aA;have bJ:IntKind.i64.wrap (z-1)=(i:Int):=by rw[z5 _ (by have:=ao.out;have:=aI.out;omega),aV]
       have aB:i<U:=by have:=ao.out;have:=aI.out;omega
       obtain⟨bK,x,rfl,u,aC⟩:=(H.ext J).at_ aB;have bn:x=decide (s=k):=by have ak:=u.out;rw[aA]at ak;injection ak with ak;rw[<-ak,bh.out]
       subst bn;have bL:=zk aB;have bM:(i:Int)<(U:Int):=Ad;have bN:(0:Int)<=(i:Int):=Ad;have br:=zk aa;clear ax aj ay az aV bk aA u aB;go_wp2_with fail
       refine aU.mono ?_;rintro e bt⟨rfl,al⟩;have aW:=zk (aS.trans al);have aX:=zk (br.ext al);have aC:=al.cell aC;clear al E Z;by_cases aD:s=k;subst aD;have ac:=aX.out;rw[zo Ad]at ac;have bO:bt.cell? ⟨g,s,none⟩=some (.int .i64 (-1)):=by have:=ac.cell s;rw[this,AfL σ aw,bi.out]
       have f0:=ac.frozen s;have aY:Wf s s=-1:=Qt (zs _);rw[aY];have bu:=zk ac;clear ac aY;go_wp2;go_roundw;case rel=> refine⟨s+1,by go_num,Ad,by rw[QK Ad],?_,aW.setCell (p:=⟨g,s,none⟩) bf _⟩;rw[zq Ad,<-bj.out];exact bu.ad s _
       case measure=>simp[intOf];omega
       have aE:decide (s=k)=false:=zn aD;have aZ:Wf s (k+1)=Wf s k:=by by_cases h:s<k;rw[QK h,QK Ad];rw[Qt Ad,Qt Ad]
       have a1:(if s<k+1 then Fc σ n (a+1)else Fc σ n a)=(if s<k then Fc σ n (a+1)else Fc σ n a):=by by_cases h:s<k;rw[zq h,zq Ad];rw[zo h,zo Ad]
       have bw:=zk aZ;have bx:=zk a1;rw[aE]at aC;clear aZ a1 aD aE;go_wp2;go_roundw;case rel=>exact⟨k+1,by go_num,Ad,by rw[bw.out],by rw[bx.out];exact aX,aW⟩
       case measure=>simp[intOf];omega
     . obtain rfl:n=k:=Ad;have aF:=aa;rw[zq aw]at aF;have aE:decide ((s:Int)<0)=false:=zn Ad;rw[QK aw];have bz:=zk aF;clear aF;go_wp2;go_roundw;case rel=>exact⟨a+1,by go_num,Ad,bz,aS⟩
       case measure=>simp[intOf];omega
  . obtain rfl:n=a:=Ad;skip;go_wp2;go_ret2;have a5:=aa;rw[AbF am ag]at a5;have bA:=Gr a5 (by simp[If];omega);obtain⟨D,n',c',e,T,_⟩:=bA.aQ (by simp[If];omega) (λx u=>by obtain⟨k,aR,rfl⟩:=zw.1 u;have:=(FC am ag (zv.1 aR)).1;omega);have bB:(If σ n).length=n:=by simp[If]
    rw[bB]at e;cases e;exact⟨_,_,rfl,T,a7.trans J⟩
def Hy(ze:Nat->Nat)(k:Nat):An:=(List.range (k+1)).map λj=>((ze j:Nat):Int)
def RW(ze:Nat->Nat)(k:Nat):Hy ze (k+1)=Hy ze k++[((ze (k+1):Nat):Int)]:=by unfold Hy;rw[xi (n:=k+1),yo];rfl
def W8(ze:Nat->Nat){k j:Nat}(h:j<=k):(Hy ze k)[j]? =some ((ze j:Nat):Int):=by unfold Hy;rw[yd,aal Ad];rfl
def Aat(t:Int->Bool)(n:Nat):List Bool:=(List.range n).map λa=>t (Er n a)
def Aby(t:Int->Bool){n a:Nat}(h:a<n):(Aat t n)[a]? =some (t (Er n a)):=by unfold Aat;rw[yd,aal h];rfl
def Rf(σ:Nat->Nat){n k:Nat}(h:k<n):(If σ n)[k]? =some ((Ff n σ k:Nat):Int):=by unfold If;rw[yd,aal h];rfl
def AcW{σ:Nat->Nat}{n:Nat}(u:∀a,a<n->σ a<n)(hi:∀a b,a<n->b<n->σ a=σ b->a=b){a:Nat}(E:a<n):Bd (If σ n) (a:Int)=true:=by rw[Jc];refine zw.2 ⟨σ a,zv.2 (u a E),?_⟩;rw[TN u hi E]
def AdN(S T:Nat)(K:Int)(A:AD)(n c:Nat)(zc:List Ba)(B:AD)(m d:Nat)(l:List AZ)(D:AD)(aD:Nat)(M:AD)(aE:Nat)(t:Int->Bool)(σ ze:Nat->Nat)(w:Aj) (h:Dt w S K (T:Int) A n zc B m l)(E:AB w D m (If σ m))(aF:Bw w M m (Aat t m))(U:Ie zc l S T t σ ze):AC 97 #[.agg #[S,K,T,.slice A n c],.slice B m d,.slice D m aD,.slice M m aE] w λe w'=>∃(D:AD)(k c':Nat),e=.returned (.tuple #[.slice D k c',true])/\AB w' D k (Hy ze m)/\Ae w w':=by
 have V:Ae w (w.alloc (.cells #[S,K,T,.slice A n c] 24)):=(Ae.refl _).alloc _;have hb:=Aq.new w 24 #[S,K,T,.slice A n c];generalize aZ:w.alloc (.cells #[S,K,T,.slice A n c] 24)=a1 at *;have a5:=hb.cell 0;have a6:=hb.cell 1;have al:=hb.cell 2;have a7:=hb.cell 3;have aG:=h.len;have H:=h.ext V;have aH:=E.ext V;have aI:=aF.ext V;have a8:=V;have aJ:=hb;have J:=zk aG;have aK:=h.hm;have bH:=h.bc.2;clear h E aF V hb aG;go_enter func97,ntmps97;go_wp2_with fail
 refine(KF S K T A n c zc B m d l a1 H).mono ?_;rintro e a9⟨rfl,ba⟩;clear aZ a5 a6 al a7;go_wp2_with fail
 refine(EL m S a9 aK H.bc).mono ?_;rintro e w2⟨rfl,aL⟩;have af:=ba.trans aL;clear aL;go_wp2_with fail
 refine(Yu B m d l D aD (If σ m) M aE (Aat t m) w2 (H.bG.ext af) (aH.ext af) (aI.ext af) aK (λi hi=>AcW (λa aa=>by have:=J.out;have:=U.lt a Ad;omega) (λa b aa hb=>U.inj a b (by have:=J.out;omega) (by have:=J.out;omega)) hi) (λi hi bc=>by rw[Aby t hi,<-J.out,U.ended i (by have:=J.out;omega) bc])).mono ?_;rintro e Z⟨rfl,aM⟩;have ab:=af.trans aM;have ag:=aJ.ext ab;have al:=ab.cell (aJ.cell 2);have bd:=OU Z (T:Int);have be:Ae Z (Z.alloc (.cells #[T] 3)):=(Ae.refl _).alloc _;have bf:Hid (Hy ze 0=[(T:Int)]):=zk (by unfold Hy;simp[U.ds]);clear aM;go_wp2;clear al;go_loopw[10,33](λv i wr=>∃k:Nat,i=k/\k<=m/\Ay wr Z v (Hy ze k)/\Ae Z wr)(λ_ i _=>m-(intOf i).toNat);case atStart=>exact⟨0,rfl,zx _,by rw[bf.out];exact bd,be⟩
 case round=>
  obtain⟨k,rfl,bI,ad,O⟩:=hrel;obtain⟨bJ,no,co,rfl,ac,bK⟩:=ad.aQ (by unfold Hy;simp;omega) (λx V=>by obtain⟨j,bh,rfl⟩:=zw.1 V;have:=U.cF j (by have:=J.out;have:=zv.1 bh;omega);omega);have bi:no=k+1:=by have:=ac.1;unfold Hy at this;simp at this;omega
  subst bi;have am:=ad;by_cases an:k<m;obtain⟨bL,x,rfl,V,bj,_⟩:=(aH.ext (ab.trans O)).at_ an;have ao:x=((Ff m σ k:Nat):Int):=by have E:=V.out;rw[Rf σ an]at E;injection E with E;exact E.symm
  subst ao;obtain⟨aa,ah⟩:=FC (n:=m) (σ:=σ) (λa aa=>by have:=J.out;have:=U.lt a Ad;omega) (λa b aa hb=>U.inj a b (by have:=J.out;omega) (by have:=J.out;omega)) an;generalize Ff m σ k=a at *;obtain⟨bM,x,bk,aq,u0,_⟩:=ac.at_ (k:=k) Ad;subst bk;have ao:x=((ze k:Nat):Int):=by have E:=aq.out;rw[W8 ze (zs k)]at E;injection E with E;exact E.symm
  subst ao;obtain⟨bN,b,rfl,au,v0⟩:=(aI.ext (ab.trans O)).at_ aa;have aj:b=t (Er m a):=by have E:=au.out;rw[Aby t aa]at E;injection E with E;exact E.symm
  have bO:IntKind.i64.wrap ((k:Int)+1-1)=(k:Int):=by rw[z5 _ Ad];omega
  have bP:(k:Int)+1-1=(k:Int):=Ad;have bQ:(k:Int)<(m:Int):=Ad;have bR:(0:Int)<=(k:Int):=Ad;have bS:(a:Int)<(m:Int):=Ad;have a0:(0:Int)<=(a:Int):=Ad;have bT:(k:Int)<(k:Int)+1:=Ad;have bn:=U.cF (k+1) (by have:=J.out;omega);cases b with
  |true=>
   have ak:=U.move a (by have:=J.out;omega) (by rw[J.out];exact aj.symm);rw[ah]at ak;obtain⟨bU,aN,aO,aP,aQ,rs,rfl,aR,aS,aT,aU,aV,aW⟩:=(H.bG.ext (ab.trans O)).at_ aa;rw[EO aR]at ak;have br:=λW(u:Ae wr W)=>(AgA S K T A n c zc aN aO aP aQ rs ((ze k:Nat):Int) W (H.cb.ext (ab.trans (O.trans u))) H.ca).mono (λe w'(aX:TB zc ⟨aN,aO,aP,aQ,rs⟩ ((ze k:Nat):Int) W e w')=>(show e=.returned (.tuple #[((ze (k+1):Nat):Int),true])/\Ae W w' from by have av:=aX.1;unfold Ih at av;rw[ak]at av;exact⟨av,aX.2⟩));have bt:=λW(u:Ae wr W)=>u.cell (O.cell (ag.cell 0));have bu:=λW(u:Ae wr W)=>u.cell (O.cell (ag.cell 1));have bw:=λW(u:Ae wr W)=>u.cell (O.cell (ag.cell 2));have bx:=λW(u:Ae wr W)=>u.cell (O.cell (ag.cell 3));have bz:=λW(u:Ae wr W)=>u.cell aS;have bA:=λW(u:Ae wr W)=>u.cell aT;have bB:=λW(u:Ae wr W)=>u.cell aU;have bC:=λW(u:Ae wr W)=>u.cell aV;have bD:=λW(u:Ae wr W)=>u.cell aW;clear ad ac V aq au aj aR ak aS aT aU aV aW ah;go_wp2;refine AL AJ ?_;(repeat first|apply Bg rfl (λW u=>Am) Am|apply AS rfl Am);apply Bu (λW u=>br W u) rfl (λW u=>by go_simp) Am;(repeat first|apply Bg rfl (λW u=>Am) Am|apply AS rfl Am);refine AN λW aw=>?_;have aY:=am.ext aw;have ax:=zk (BD W ((ze (k+1):Nat):Int) 3);clear bt bu bw bx bz bA bB bC bD bj u0 v0;go_wp2_with(at_builtin;refine BW _ rfl (.tmp 60) (.tmp 62) rfl Z _ (Hy ze k) rfl (aY.alloc _) _ _ ((ze (k+1):Nat):Int) rfl ax.out (by have:=bn;omega) (by unfold Hy;simp;omega) (by have:=(O.trans aw).size;simp;omega) ?_;intro v6 ay az ae aA;have aB:Hid (Ae Z ay):=Ae.grown ((O.trans aw).alloc _) ae (λk e=>(aY.J k e).1);clear ae aA)
   go_roundw;case rel=>exact⟨k+1,by go_num,Ad,by rw[RW];exact az,aB⟩
   case measure=>simp[intOf];omega
  |false=>
   have aC:=U.stay a (by have:=J.out;omega) (by rw[J.out];exact aj.symm);rw[ah]at aC;have bE:=zk aC;have ax:=zk (BD wr ((ze k:Nat):Int) 3);have bF:=U.cF k (by have:=J.out;omega);clear ad ac V aq au aj ah aC;go_wp2_with(at_builtin;refine BW _ rfl (.tmp 60) (.tmp 62) rfl Z _ (Hy ze k) rfl (am.alloc _) _ _ ((ze k:Nat):Int) rfl ax.out (by have:=bF;omega) (by unfold Hy;simp;omega) (by have:=O.size;simp;omega) ?_;intro v6 ay az ae aA;have aB:Hid (Ae Z ay):=Ae.grown (O.alloc _) ae (λk e=>(am.J k e).1);clear ae aA)
   go_roundw;case rel=>exact⟨k+1,by go_num,Ad,by rw[RW,bE.out];exact az,aB⟩
   case measure=>simp[intOf];omega
  obtain rfl:m=k:=Ad;have bG:=ac;clear ad ac;go_wp2;go_ret2;exact⟨_,_,_,rfl,bG,a8.trans (ab.trans O)⟩
def FZ(f:Nat->Bool)(n k:Nat):Ck:=((List.range n).map λi=>Value.bool (if i<k then f i else false)).toArray
def Zs(f:Nat->Bool)(n:Nat):madeCells #[Value.bool false] n=FZ f n 0:=by apply acp;rw[size_madeCells];simp[FZ];intro i u E;unfold madeCells FZ;simp[adv]
def XY(f:Nat->Bool){n k:Nat}:(FZ f n k).setIfInBounds k (.bool (f k))=FZ f n (k+1):=by
 apply acp;simp[FZ];intro i H E;have hi:i<n:=by simpa[FZ]using E
 by_cases e:k=i;subst e;simp[FZ];rw[acc (by simpa[FZ]using hi) Ad];simp only[FZ,List.getElem_toArray,ade,ady];by_cases u:i<k;rw[zq u,zq Ad];rw[zo u,zo Ad]
def Adv{w:Aj}{g n:Nat}{f:Nat->Bool}(h:Aq w g 4 (FZ f n n))(H:n<=1000):Bw w g n ((List.range n).map f):=by
 refine⟨AG,Ad,λ_=>⟨_,rfl,λj x u=>?_⟩⟩;have E:j<n:=by have:=(zl.1 u).1;simpa using this
 rw[yd,aal E]at u;cases u;rw[Of,xv,h.cell j];unfold FZ;rw[List.getElem?_toArray,yd,aal E];simp[E]
def YM{σ:Nat->Nat}{n:Nat}(u:∀a,a<n->σ a<n)(hi:∀a b,a<n->b<n->σ a=σ b->a=b):(If σ n).Nodup:=GF λa b E hb e=>by have H:=(FC u hi E).2;have J:=(FC u hi hb).2;have e:Ff n σ a=Ff n σ b:=Ad;rw[<-H,<-J,e]
def TJ{σ:Nat->Nat}{n a:Nat}(u:∀a,a<n->σ a<n)(hi:∀a b,a<n->b<n->σ a=σ b->a=b)(E:a<n):Ks (If σ n) (a:Int)=(σ a:Int):=Agg (YM u hi) (by rw[Rf σ (u a E),TN u hi E])
def AdC(S T:Nat)(K:Int)(A:AD)(n c:Nat)(zc:List Ba)(B:AD)(m d:Nat)(l:List AZ)(M:AD)(aa az:Nat)(u:List Bool)(σ ze:Nat->Nat)(w:Aj) (h:Dt w S K (T:Int) A n zc B m l)(J:Bw w M aa u)(aQ:u.length=BJ m S)(ac:Ie zc l S T (Gi u) σ ze):AC 33 #[.agg #[S,K,T,.slice A n c],.slice B m d,.slice M aa az] w λe w'=>e=.returned true/\Ae w w':=by
 have U:Ae w (w.alloc (.cells #[S,K,T,.slice A n c] 24)):=(Ae.refl _).alloc _;have hb:=Aq.new w 24 #[S,K,T,.slice A n c];generalize bA:w.alloc (.cells #[S,K,T,.slice A n c] 24)=bB at *;have aA:=hb.cell 0;have aB:=hb.cell 1;have aC:=hb.cell 2;have aD:=hb.cell 3;have aR:=h.len;have H:=h.ext U;have aE:=J.ext U;have bC:=U;have ak:=hb;have ab:=zk aR;have af:=zk aQ;have ag:=h.hm;have al:=h.bc;have aS:aa=BJ m S:=by have:=J.1;omega
 have bD:=FE ag al.2;have cn:aa<=180:=Ad;have aT:=zk aS;have aF:∀a,a<m->σ a<m:=λa aU=>by have:=ac.lt a Ad;omega
 have aV:∀a b,a<m->b<m->σ a=σ b->a=b:=λa b aU hb=>ac.inj a b Ad Ad;have aG:=zk aV;have bE:=UP S K T A n c zc B m d l bB H.cb H.bG H.ca ag (by unfold Bj;omega) (by have:=H.dn;unfold Bj;omega) H.b9.aN;clear h J U hb aR aQ aS bD aV;go_enter func33,ntmps33;go_wp2_with fail
 refine bE.mono ?_;rintro e am⟨v1,bF,rfl,aW,⟨co,cp,rfl,aX⟩,aY⟩;obtain rfl:bF=0:=aW.2 ⟨H.b6,H.b9⟩;obtain⟨rfl,rfl⟩:=aX ⟨H.b6,H.b9⟩;have aZ:Ae am (am.alloc (.cells #[m,S] 67)):=(Ae.refl _).alloc _;have an:=Aq.new am 67 #[m,S];generalize bG:am.alloc (.cells #[m,S] 67)=bH at *;have ao:=an.cell 0;have aq:=an.cell 1;have a1:=aY.trans aZ;have aH:=an;clear aY aZ an aW aX bA aA aB aC aD;go_wp2_with fail
 refine(Sc m S M aa az u σ bH ag al (aE.ext a1) af aF aG (λa aU k a5=>by have:=ac.place a (by have:=ab.out;omega) k (by have:=ab.out;omega);rwa[ab.out]at this)).mono ?_;rintro e w2⟨D,a6,rfl,bI,ah⟩;have a7:=a1.trans ah;have ao:=ah.cell (aH.cell 0);have aq:=ah.cell (aH.cell 1);have bJ:=aH.ext ah;clear ah bG;go_wp2_with fail
 refine(WJ m S M aa az u ze w2 ag al (aE.ext a7) af (λk a5=>ac.cF k (by have:=ab.out;omega)) (λk a5 b hb=>by have:=ac.state k (by have:=ab.out;omega) b hb;rwa[ab.out]at this)).mono ?_;rintro e V⟨E,bK,cq,rfl,a8,au⟩;have a9:=bI.ext au;have av:=a7.trans au;have ba:=bJ.ext au;have bL:∀W,(Instr.makeSlice 38 m m).run prog W=.ok (.slice W m m) (W.alloc (.cells (madeCells #[false] m) 4)):=λW=>by obtain⟨T,hi,bM,bN,bO⟩:=info_parts YK;have:=Ci (P:=prog) 38 4 T _ underlying38 hi bM .i64 .i64 m m (zs _) (by rw[bO];omega) Ad W;rw[bN,abc]at this;exact this
 have bP:Ae V (V.alloc (.cells (madeCells #[false] m) 4)):=(Ae.refl _).alloc _;have bQ:Aq (V.alloc (.cells (madeCells #[false] m) 4)) V 4 (FZ (λa=>Gi u (Er m a)) m 0):=by rw[<-Zs];exact Aq.new V _ _
 clear au ao aq;go_wp2;clear bL;go_loopw[51](λv wr=>∃j:Nat,v=j/\j<=m/\Aq wr V 4 (FZ (λa=>Gi u (Er m a)) m j)/\Ae V wr)(λv _=>m-(intOf v).toNat);case atStart=>exact⟨0,rfl,zx _,bQ,bP⟩
 case round=>
  obtain⟨j,rfl,bR,bc,O⟩:=hrel;by_cases bd:j<m
  . have cr:(j:Int)<(m:Int):=Ad;have cs:(0:Int)<=(j:Int):=Ad;have ao:=O.cell (ba.cell 0);have aq:=O.cell (ba.cell 1);have aI:=I5 m S 2 j 0 wr ag al ⟨Ax,Ax⟩ (by unfold Cj;simp;omega) (by unfold Cj;simp);rw[UY]at aI;have be:=aI;have bf:=zk (XY (λa=>Gi u (Er m a)) (n:=m) (k:=j));obtain⟨z,aJ⟩:∃z,Er m j=z:=⟨_,rfl⟩;have aK:0<z/\z<=(u.length:Int):=by rw[<-aJ,af.out];exact⟨Ge _ _,(Oa (S:=S) bd).2.2⟩
    obtain⟨i,bh,bS,bi⟩:=TR aK.1 aK.2;rw[aJ]at be bf;have ct:IntKind.i64.wrap (z-1)=(i:Int):=by rw[z5 _ (by have:=af.out;have:=aT.out;omega),bh]
    have bT:i<aa:=by have:=af.out;have:=aT.out;omega
    obtain⟨bU,x,rfl,U,bj⟩:=(aE.ext (av.trans O)).at_ bT;obtain rfl:Gi u z=x:=by have Z:=U.out;rw[bi]at Z;injection Z
    have cu:(i:Int)<(aa:Int):=Ad;have cv:(0:Int)<=(i:Int):=Ad;clear aI aJ aK bh bS bi U;go_wp2_with fail
    refine be.mono ?_;rintro e bV⟨rfl,aw⟩;have ax:=bc.ext aw;have bW:=O.trans aw;have bj:=aw.cell bj;have f0:=ax.frozen j;have aL:bV.cell? ⟨V,j,none⟩=some false:=by rw[ax.cell j];simp[FZ,bd]
    have aM:=ax.ad j (.bool (Gi u z));rw[bf.out]at aM;have bX:=aM;clear ax aM aw ao aq;go_wp2;go_roundw;case rel=>exact⟨j+1,by go_num,Ad,bX,bW.setCell (p:=⟨V,j,none⟩) (zs _) _⟩
    case measure=>simp[intOf];omega
  . obtain rfl:m=j:=Ad;have bY:(Bw wr V m (Aat (Gi u) m)):=Adv bc Ad;have aj:=av.trans O;have aA:=aj.cell (ak.cell 0);have aB:=aj.cell (ak.cell 1);have aC:=aj.cell (ak.cell 2);have aD:=aj.cell (ak.cell 3);skip;go_wp2_with fail
    refine(AdN S T K A n c zc B m d l D a6 _ m (Gi u) σ ze wr (H.ext aj) (a9.ext O) bY ac).mono ?_;rintro e bZ⟨F,b0,cx,rfl,bk,bn⟩;have br:=O.trans bn;clear bn aA aB aC aD;go_wp2_with fail
    refine(Nd B m d l bZ (H.bG.ext (av.trans br)) Ad).mono ?_;rintro e b1⟨P,bt,b2,rfl,bu,aN⟩;have b3:bt<=1000:=by have ad:=bu.1;rw[BZ Ig]at ad;have cy:=Nt (l:=l) (by have:=ab.out;omega);omega
    have aO:=br.trans aN;have b4:=bk.ext aN;clear aN;go_wp2_with fail
    refine(VO D m a6 (If σ m) P bt b2 (Cc l) b1 (a9.ext aO) bu b3 (λp b5=>by
     obtain⟨Z,J,ad⟩:=G8.1 b5;have cz:=ab.out;have b6:p.1≠p.2:=λe=>by rw[e]at ad;have bw:l[p.2]? =some (l[p.2]'J):=zr J;have b7:=H.b9.ok bw;rw[EO bw]at ad;unfold Cw at ad;rw[z4,z8,z8]at ad;rcases b7.2.2.2 with h|h<;>omega
     exact⟨σ p.1,σ p.2,ac.time _ _ Z J b6 ad,TJ aF aG Ad,TJ aF aG Ad⟩)).mono ?_
    rintro e b8⟨cA,rfl,ay⟩;have b9:=zk (aO.trans ay);have cc:=zk (b4.ext ay);have ce:=zk (a8.ext (aO.trans ay));have cf:bK=m+1:=by have:=a8.1;unfold Ra at this;simp at this;omega
    have cg:b0=m+1:=by have:=bk.1;unfold Hy at this;simp at this;omega
    subst cf cg;clear ay;go_wp2;go_loopw[89](λv wr=>∃j:Nat,v=j/\j<=m+1/\Ae b8 wr)(λv _=>m+1-(intOf v).toNat);case atStart=>exact⟨0,rfl,zx _,Ae.refl _⟩
    case round=>
     obtain⟨j,rfl,bR,O⟩:=hrel;have bx:=zk O;by_cases aP:j<m+1;obtain⟨bU,x,rfl,U,aL,_⟩:=(ce.ext O).at_ aP;obtain⟨cB,y,rfl,bz,u0,_⟩:=(cc.ext O).at_ aP;have ch:x=y:=by have Z:=U.out;have J:=bz.out;rw[W8 ze Ad]at J;unfold Ra at Z;rw[yd,aal aP]at Z;injection Z with Z;injection J with J;exact Z.symm.trans J
     subst ch;have cC:(j:Int)<(m:Int)+1:=Ad;have cD:(0:Int)<=(j:Int):=Ad;have ci:=λW(ae:Ae wr W)=>ae.cell aL;have cj:=λW(ae:Ae wr W)=>ae.cell u0;clear U bz aL u0;go_wp2;refine AL AJ ?_;(repeat first|apply Bg rfl (λW ae=>Am) Am|apply AS rfl Am);refine AN λW ae=>?_;have cm:=zk (bx.trans ae);clear ae ci cj;go_wp2;go_roundw;case rel=>exact⟨j+1,by go_num,Ad,cm⟩
     case measure=>simp[intOf];omega
     obtain rfl:j=m+1:=Ad;skip;go_wp2;go_ret;exact⟨rfl,bC.trans (av.trans (b9.trans bx))⟩
