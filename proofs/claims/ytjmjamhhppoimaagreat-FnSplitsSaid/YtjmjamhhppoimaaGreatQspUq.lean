/- Texts that the proof needs: Ud, Uq. -/
import Derived.Test.YtjmjamhhppoimaaGreatQspUc
namespace Go.Proofs.YtjmjamhhppoimaaGreat.D
open Go.RowKit G
set_option linter.unusedVariables false
end Go.Proofs.YtjmjamhhppoimaaGreat.D
namespace Go.Proofs.YtjmjamhhppoimaaGreat
end Go.Proofs.YtjmjamhhppoimaaGreat
namespace Go.Proofs.YtjmjamhhppoimaaGreat.V
open Go.RowKit G D
set_option linter.unusedVariables false
set_option linter.unusedSimpArgs false
def tab(r c:Nat)(f:Nat→Nat→Int):List Int:=(List.range (r*c)).map fun t=>f (t/c) (t%c)
theorem tab_len(r c:Nat)(f:Nat→Nat→Int):(tab r c f).length=r*c:=by simp[tab]
theorem tab_lt{r c i j:Nat}(hi:i<r)(hj:j<c):i*c+j<r*c:=by
 have:(i+1)*c≤r*c:=Nat.mul_le_mul_right c hi
 rw[Nat.add_mul,Nat.one_mul] at this;omega
theorem tab_div{c i j:Nat}(hj:j<c):(i*c+j)/c=i∧(i*c+j)%c=j:=by
 constructor
 ·rw[Nat.mul_comm,Nat.mul_add_div (by omega),Nat.div_eq_of_lt hj];omega
 ·rw[Nat.mul_comm,Nat.mul_add_mod,Nat.mod_eq_of_lt hj]
theorem tab_get{r c i j:Nat}(f:Nat→Nat→Int)(hi:i<r)(hj:j<c):(tab r c f).getD (i*c+j) default=f i j:=by
 have h:=tab_lt hi hj
 have d:=tab_div (i:=i) hj
 simp[tab,h,d.1,d.2]
theorem pos_of_mul{r c t:Nat}(h:t<r*c):0<c:=by
 rcases Nat.eq_zero_or_pos c with h0|h0
 ·subst h0;simp at h
 ·exact h0
theorem tab_ext{r c:Nat}{f g:Nat→Nat→Int}(h:∀i,i<r→∀j,j<c→f i j=g i j):tab r c f=tab r c g:=by
 apply List.map_congr_left
 intro t ht
 have ht:t<r*c:=by simpa using ht
 have hc:=pos_of_mul ht
 exact h _ (Nat.div_lt_of_lt_mul (by rw[Nat.mul_comm];exact ht)) _ (Nat.mod_lt _ hc)
def updF(f:Nat→Nat→Int)(i j:Nat)(v:Int):Nat→Nat→Int:=fun i' j'=>if i'=i∧j'=j then v else f i' j'
theorem tab_set{r c i j:Nat}(f:Nat→Nat→Int)(v:Int)(hi:i<r)(hj:j<c):(tab r c f).set (i*c+j) v=tab r c (updF f i j v):=by
 apply List.ext_getElem (by simp[tab_len])
 intro t h1 h2
 have ht:t<r*c:=by simpa[tab_len] using h2
 have e:t/c*c+t%c=t:=Nat.div_add_mod' t c
 have d:=tab_div (i:=i) hj
 rw[List.getElem_set]
 simp only[tab,List.getElem_map,List.getElem_range,updF]
 by_cases h:i*c+j=t
 ·rw[if_pos h,if_pos]
  rw[←h];exact d
 ·rw[if_neg h,if_neg]
  rintro⟨a,b⟩
  exact h (by rw[←a,←b];exact e)
theorem tab_of{l:List Int}{r c:Nat}(h:l.length=r*c):tab r c (fun i j=>l.getD (i*c+j) default)=l:=by
 apply List.ext_getElem (by rw[tab_len,h])
 intro t h1 h2
 simp only[tab,List.getElem_map,List.getElem_range,Nat.div_add_mod' t c]
 simp[h2]
def rowL(c:Nat)(g:Nat→Int):List Int:=(List.range c).map g
theorem rowL_len(c:Nat)(g:Nat→Int):(rowL c g).length=c:=by simp[rowL]
theorem rowL_get{c j:Nat}(g:Nat→Int)(hj:j<c):(rowL c g).getD j default=g j:=by simp[rowL,hj]
theorem rowL_of{l:List Int}{c:Nat}(h:l.length=c):rowL c (fun j=>l.getD j default)=l:=by
 subst h
 apply List.ext_getElem (by simp[rowL])
 intro t h1 h2
 simp[rowL,h2]
theorem tab_row{r c i:Nat}(f:Nat→Nat→Int)(hi:i<r):((tab r c f).drop (i*c)).take c=rowL c (f i):=by
 have hle:(i+1)*c≤r*c:=Nat.mul_le_mul_right c hi
 rw[Nat.add_mul,Nat.one_mul] at hle
 apply List.ext_getElem
 ·simp[tab_len,rowL_len];omega
 ·intro t h1 h2
  have ht:t<c:=by simpa[rowL_len] using h2
  have d:=tab_div (i:=i) ht
  simp[tab,rowL,d.1,d.2]
attribute [simp] tab_len rowL_len
theorem tab_in{r c i j:Nat}(hi:i<r)(hj:j<c)(hr:r≤1024)(hc:c≤1024):In64 ((i:Int)*(c:Int))∧In64 ((i:Int)*(c:Int)+(j:Int)):=by
 have h:(i:Int)*(c:Int)≤1024*1024:=Int.mul_le_mul (by omega) (by omega) (by omega) (by omega)
 have h0:0≤(i:Int)*(c:Int):=Int.mul_nonneg (by omega) (by omega)
 unfold In64;omega
def findR(f:Nat→Nat→Int)(k:Nat):Nat→Nat→Nat
 |0,a=>a
 |n+1,a=>if f a k=0 then findR f k n (a+1) else a
theorem findR_bd(f:Nat→Nat→Int)(k:Nat):∀n a,a≤findR f k n a∧findR f k n a≤a+n
 |0,a=>by simp[findR]
 |n+1,a=>by
  simp only[findR]
  split
  ·have:=findR_bd f k n (a+1);omega
  ·omega
theorem findR_ne{f:Nat→Nat→Int}{k:Nat}:∀{n a:Nat},findR f k n a<a+n→f (findR f k n a) k≠0
 |0,a,h=>by simp[findR] at h
 |n+1,a,h=>by
  simp only[findR] at h⊢
  split
  ·rename_i h0
   rw[if_pos h0] at h
   exact findR_ne (by omega)
  ·assumption
theorem findR_z{f:Nat→Nat→Int}{k:Nat}:∀{n a:Nat} {i:Nat},a≤i→i<findR f k n a→f i k=0
 |0,a,i,h1,h2=>by simp[findR] at h2;omega
 |n+1,a,i,h1,h2=>by
  simp only[findR] at h2
  split at h2
  ·rename_i h0
   rcases Nat.lt_or_ge a i with h|h
   ·exact findR_z (by omega) h2
   ·obtain rfl:a=i:=by omega
    exact h0
  ·omega
def swapF(f:Nat→Nat→Int)(t a:Nat):Nat→Nat→Int:=fun i j=>if i=t then f a j else if i=a then f t j else f i j
def scaleF(p:Int)(f:Nat→Nat→Int)(t:Nat)(s:Int):Nat→Nat→Int:=fun i j=>if i=t then f i j*s%p else f i j
def clearF(p:Int)(f:Nat→Nat→Int)(t k:Nat):Nat→Nat→Int:=fun i j=>if i=t then f i j else(f i j+(p-f i k)*f t j)%p
def powP(p x:Int):Nat→Int
 |0=>1
 |n+1=>powP p x n*x%p
def invP(p x:Int):Int:=powP p x (max (p-2) 1).toNat
def stepE(p:Int)(r:Nat)(s:(Nat→Nat→Int)×List Nat)(k:Nat):(Nat→Nat→Int)×List Nat:=
 if findR s.1 k (r-s.2.length) s.2.length=r then s else
  (clearF p (scaleF p (swapF s.1 s.2.length (findR s.1 k (r-s.2.length) s.2.length)) s.2.length (invP p (swapF s.1 s.2.length (findR s.1 k (r-s.2.length) s.2.length) s.2.length k))) s.2.length k,s.2++[k])
def redK(p:Int)(r:Nat)(f:Nat→Nat→Int):Nat→(Nat→Nat→Int)×List Nat
 |0=>(f,[])
 |k+1=>stepE p r (redK p r f k) k
def BdF(p:Int)(r c:Nat)(f:Nat→Nat→Int):Prop:=∀i,i<r→∀j,j<c→0≤f i j∧f i j≤p-1
theorem mod_bd{p x:Int}(hp:0<p):0≤x%p∧x%p≤p-1:=by
 have h1:=Int.emod_nonneg x (show p≠0 by omega)
 have h2:=Int.emod_lt_of_pos x hp
 omega
theorem BdF.swap{p:Int}{r c:Nat}{f:Nat→Nat→Int}(h:BdF p r c f){t a:Nat}(ht:t<r)(ha:a<r):BdF p r c (swapF f t a):=fun i hi j hj=>by
 unfold swapF
 split
 ·exact h a ha j hj
 ·split
  ·exact h t ht j hj
  ·exact h i hi j hj
theorem BdF.scale{p:Int}{r c:Nat}{f:Nat→Nat→Int}(h:BdF p r c f)(hp:0<p){t:Nat}{s:Int}:BdF p r c (scaleF p f t s):=fun i hi j hj=>by
 unfold scaleF
 split
 ·exact mod_bd hp
 ·exact h i hi j hj
theorem BdF.clear{p:Int}{r c:Nat}{f:Nat→Nat→Int}(h:BdF p r c f)(hp:0<p){t k:Nat}:BdF p r c (clearF p f t k):=fun i hi j hj=>by
 unfold clearF
 split
 ·exact h i hi j hj
 ·exact mod_bd hp
theorem redK_bd{p:Int}(hp:0<p){r c:Nat}{f:Nat→Nat→Int}(h:BdF p r c f):∀k,BdF p r c (redK p r f k).1∧(redK p r f k).2.length≤r∧(redK p r f k).2.length≤k∧∀x∈(redK p r f k).2,x<k
 |0=>⟨h,by simp[redK],by simp[redK],by simp[redK]⟩
 |k+1=>by
  obtain⟨h1,h2,h3,h4⟩:=redK_bd hp h k
  simp only[redK,stepE]
  have hb:=findR_bd (redK p r f k).1 k (r-(redK p r f k).2.length) (redK p r f k).2.length
  split
  ·exact⟨h1,h2,by omega,fun x hx=>by have:=h4 x hx;omega⟩
  ·refine⟨((h1.swap (by omega) (by omega)).scale hp).clear hp,by simp;omega,by simp;omega,fun x hx=>?_⟩
   rcases List.mem_append.1 hx with hx|hx
   ·have:=h4 x hx;omega
   ·simp at hx;omega
theorem stepE_full{p:Int}{r:Nat}{s:(Nat→Nat→Int)×List Nat}(h:s.2.length=r)(k:Nat):stepE p r s k=s:=by
 unfold stepE
 rw[if_pos (by rw[h,Nat.sub_self];rfl)]
theorem redK_full{p:Int}{r:Nat}{f:Nat→Nat→Int}{k:Nat}(h:(redK p r f k).2.length=r):∀n,redK p r f (k+n)=redK p r f k
 |0=>rfl
 |n+1=>by rw[←Nat.add_assoc,redK,redK_full h n,stepE_full h]
def swK(f:Nat→Nat→Int)(t a c:Nat):Nat→Nat→Int:=fun i j=>if j<c then swapF f t a i j else f i j
theorem swK_zero(f:Nat→Nat→Int)(t a:Nat):swK f t a 0=f:=by funext i j;simp[swK]
theorem swK_set(f:Nat→Nat→Int)(t a c:Nat):updF (updF (swK f t a c) t c (f a c)) a c (f t c)=swK f t a (c+1):=by
 funext i j
 simp only[swK,swapF,updF]
 by_cases h1:j=c
 ·subst h1
  by_cases h2:i=a
  ·subst h2
   by_cases h3:i=t
   ·subst h3;simp
   ·simp[h3]
  ·by_cases h3:i=t
   ·subst h3;simp[h2]
   ·simp[h2,h3]
 ·have:j<c+1↔j<c:=by omega
  simp[h1,this]
theorem swK_at(f:Nat→Nat→Int)(t a c i:Nat):swK f t a c i c=f i c:=by simp[swK]
def scK(p:Int)(f:Nat→Nat→Int)(t:Nat)(s:Int)(c:Nat):Nat→Nat→Int:=fun i j=>if i=t∧j<c then f i j*s%p else f i j
theorem scK_zero(p:Int)(f:Nat→Nat→Int)(t:Nat)(s:Int):scK p f t s 0=f:=by funext i j;simp[scK]
theorem scK_at(p:Int)(f:Nat→Nat→Int)(t:Nat)(s:Int)(c i:Nat):scK p f t s c i c=f i c:=by simp[scK]
theorem scK_set(p:Int)(f:Nat→Nat→Int)(t:Nat)(s:Int)(c:Nat):updF (scK p f t s c) t c (f t c*s%p)=scK p f t s (c+1):=by
 funext i j
 simp only[scK,updF]
 by_cases h1:i=t
 ·subst h1
  by_cases h2:j=c
  ·subst h2;simp
  ·have:j<c+1↔j<c:=by omega
   simp[h2,this]
 ·simp[h1]
def clK(p:Int)(f:Nat→Nat→Int)(t k i0 c0:Nat):Nat→Nat→Int:=fun i j=>if i≠t∧(i<i0∨(i=i0∧j<c0)) then(f i j+(p-f i k)*f t j)%p else f i j
theorem clK_zero(p:Int)(f:Nat→Nat→Int)(t k:Nat):clK p f t k 0 0=f:=by funext i j;simp[clK]
theorem clK_top(p:Int)(f:Nat→Nat→Int)(t k i0 c0 j:Nat):clK p f t k i0 c0 t j=f t j:=by simp[clK]
theorem clK_at(p:Int)(f:Nat→Nat→Int)(t k i0 c0:Nat):clK p f t k i0 c0 i0 c0=f i0 c0:=by simp[clK]
theorem clK_row(p:Int)(f:Nat→Nat→Int)(t k i0 j:Nat):clK p f t k i0 0 i0 j=f i0 j:=by simp[clK]
theorem clK_set(p:Int)(f:Nat→Nat→Int)(t k i0 c0:Nat)(h:i0≠t):updF (clK p f t k i0 c0) i0 c0 ((f i0 c0+(p-f i0 k)*f t c0)%p)=clK p f t k i0 (c0+1):=by
 funext i j
 simp only[clK,updF]
 by_cases h1:i=i0
 ·subst h1
  by_cases h2:j=c0
  ·subst h2;simp[h]
  ·have:j<c0+1↔j<c0:=by omega
   simp[h2,this]
 ·simp[h1]
theorem clK_next(p:Int)(f:Nat→Nat→Int)(t k i0 r c:Nat):tab r c (clK p f t k i0 c)=tab r c (clK p f t k (i0+1) 0):=tab_ext fun i hi j hj=>by
 have e:(i≠t∧(i<i0∨i=i0∧j<c))↔(i≠t∧(i<i0+1∨i=i0+1∧j<0)):=by omega
 simp only[clK,e]
theorem clK_own(p:Int)(f:Nat→Nat→Int)(k i0:Nat):clK p f i0 k i0 0=clK p f i0 k (i0+1) 0:=by
 funext i j
 have e:(i≠i0∧(i<i0∨i=i0∧j<0))↔(i≠i0∧(i<i0+1∨i=i0+1∧j<0)):=by omega
 simp only[clK,e]
theorem clK_all(p:Int)(f:Nat→Nat→Int)(t k r c:Nat):tab r c (clK p f t k r 0)=tab r c (clearF p f t k):=tab_ext fun i hi j hj=>by
 by_cases h:i=t
 ·simp[clK,clearF,h]
 ·simp[clK,clearF,h,hi]
theorem swK_all(f:Nat→Nat→Int)(t a r c:Nat):tab r c (swK f t a c)=tab r c (swapF f t a):=tab_ext fun i hi j hj=>by simp[swK,hj]
theorem scK_all(p:Int)(f:Nat→Nat→Int)(t:Nat)(s:Int)(r c:Nat):tab r c (scK p f t s c)=tab r c (scaleF p f t s):=tab_ext fun i hi j hj=>by simp[scK,scaleF,hj]
theorem sub_mod(p x g y:Int):(x-g*y)%p=(x+(p-g)*y)%p:=by
 have:x+(p-g)*y=x-g*y+p*y:=by rw[Int.sub_mul];omega
 rw[this,Int.add_mul_emod_self_left]
section
variable {P : Program} {w0 : World} {MP : Fr} {st : St} {d : Option Tmp} {ty : TypeId} {pos : String} {af : Array Edge} {g : Option (Nat × Bool)} {x y : Operand}
theorem A.idxQ{t e bys:Nat}{zz:Value}[hu:HasU P t (.slice e)][hi:HasI P e 1 bys zz]{o n m r c i j:Nat}{l oo:Bool}{f:Nat→Nat→Int}(hx:evA st x=.sl o n 0 m)(hy:evA st y=.i ((i:Int)*(c:Int)+(j:Int)))(hh:st.hp o=.live l 1 (V.E oo (tab r c f)))(h1:i<r)(h2:j<c)(hn:n=r*c)(hm:m=r*c):
  ASil true P w0 MP st ⟨d,.indexAddr t x y,ty,pos,af,g⟩ (.pt o n (i*c+j) 0):=by
 have h:=A.idxE (P:=P) (w0:=w0) (MP:=MP) (d:=d) (ty:=ty) (pos:=pos) (af:=af) (g:=g) (t:=t) (k:=i*c+j) hx hy hh (by rw[tab_len,hn]) (by push_cast;rfl) (by rw[hm];exact tab_lt h1 h2)
 rwa [Nat.zero_add] at h
theorem A.ldQ{t:TypeId}[h1:One P t]{o n r c i j:Nat}{l oo:Bool}{f:Nat→Nat→Int}(hx:evA st x=.pt o n (i*c+j) 0)(hh:st.hp o=.live l 1 (V.E oo (tab r c f)))(h1:i<r)(h2:j<c)(hn:n=r*c):ASil false P w0 MP st ⟨d,.load t x,ty,pos,af,g⟩ (.i (f i j)):=
 A.ldE hx hh (by rw[tab_len,hn]) (by rw[tab_len];exact tab_lt h1 h2) (by rw[tab_get f h1 h2];rfl) rfl
theorem A.idxQD{t e bys:Nat}{zz:Value}[hu:HasU P t (.slice e)][hi:HasI P e 1 bys zz]{r c i j:Nat}{o oo:Bool}{f:Nat→Nat→Int}(hx:evA st x=.dt o 1 (V.E oo (tab r c f)))(hy:evA st y=.i ((i:Int)*(c:Int)+(j:Int)))(h1:i<r)(h2:j<c):
  ASil true P w0 MP st ⟨d,.indexAddr t x y,ty,pos,af,g⟩ (.ip [.i (f i j)]):=by
 have h:=A.idxF (P:=P) (w0:=w0) (MP:=MP) (d:=d) (ty:=ty) (pos:=pos) (af:=af) (g:=g) (t:=t) (e:=e) (k:=i*c+j) hx hy (by push_cast;rfl) (by rw[tab_len];exact tab_lt h1 h2)
 rwa [tab_get f h1 h2] at h
end
section
variable {P : Program} {n : Nat} {w0 : World} {MP : Fr} {Q : Exit → St → Prop} {E : Nat → AV} {hp : Nat → Ob} {nx : Nat} {lb : Bool} {ops : Array Oper} {os : List Oper} {d : Option Tmp} {ty : TypeId} {pos : String} {af : Array Edge} {g : Option (Nat × Bool)} {x y : Operand}
theorem F.stQ{t bys o nn r c i j:Nat}{zz:Value}{l oo:Bool}{f:Nat→Nat→Int}{v:Int}[hi:HasI P t 1 bys zz](hx:evA ⟨E,hp,nx⟩ x=.pt o nn (i*c+j) 0)(hy:evA ⟨E,hp,nx⟩ y=.i v)(hh:hp o=.live l 1 (V.E oo (tab r c f)))(h1:i<r)(h2:j<c)(hn:nn=r*c)
  (hw:awant n ops ⟨d,.store t x y,ty,pos,af,g⟩ E true=true) (hd:fits n d=true) (hlb:lb=false)
  (h:ARg P n w0 MP lb ops os Q ⟨putE E d .no,updA hp o (.live l 1 (V.E oo (tab r c (updF f i j v)))),nx⟩):ARg P n w0 MP lb ops (⟨d,.store t x y,ty,pos,af,g⟩::os) Q ⟨E,hp,nx⟩:=
 F.stI hx hy hh (by rw[tab_len,hn]) (by rw[tab_len];exact tab_lt h1 h2) hw hd hlb (by rw[tab_set f v h1 h2];exact h)
end
abbrev tm(r c:Nat)(f:Nat→Nat→Int):Mat:=⟨(r:Int),(c:Int),tab r c f⟩
def ent(m:Mat):Nat→Nat→Int:=fun i j=>m.m.getD (i*m.c.toNat+j) default
theorem tm_of{m:Mat}(hr:0≤m.r)(hc:0≤m.c)(hl:(m.m.length:Int)=m.r*m.c):tm m.r.toNat m.c.toNat (ent m)=m:=by
 have e1:((m.r.toNat:Nat):Int)=m.r:=Int.toNat_of_nonneg hr
 have e2:((m.c.toNat:Nat):Int)=m.c:=Int.toNat_of_nonneg hc
 have e3:m.m.length=m.r.toNat*m.c.toNat:=by
  have:(m.m.length:Int)=((m.r.toNat*m.c.toNat:Nat):Int):=by push_cast;rw[e1,e2];exact hl
  exact_mod_cast this
 unfold tm ent
 rw[e1,e2,tab_of e3]
def addK(p k:Int)(off:Nat)(b xs:List Int)(j:Nat):List Int:=(List.range xs.length).map fun t=>if off≤t∧t<off+j then(xs.getD t default+k*b.getD (t-off) default)%p else xs.getD t default
theorem addK_len(p k:Int)(off:Nat)(b xs:List Int)(j:Nat):(addK p k off b xs j).length=xs.length:=by simp[addK]
attribute [simp] addK_len
theorem addK_zero(p k:Int)(off:Nat)(b xs:List Int):addK p k off b xs 0=xs:=by
 apply List.ext_getElem (by simp)
 intro t h1 h2
 have:¬(off≤t∧t<off+0):=by omega
 simp only[addK,List.getElem_map,List.getElem_range,if_neg this]
 simp[h2]
theorem addK_at(p k:Int)(off:Nat)(b xs:List Int){j:Nat}(h:off+j<xs.length):(addK p k off b xs j).getD (off+j) default=xs.getD (off+j) default:=by
 have:¬(off≤off+j∧off+j<off+j):=by omega
 simp only[addK,List.getD_eq_getElem?_getD,List.getElem?_map,List.getElem?_range h,Option.map_some,Option.getD_some,this,if_false]
theorem addK_set(p k:Int)(off:Nat)(b xs:List Int){j:Nat}(h:off+j<xs.length):(addK p k off b xs j).set (off+j) ((xs.getD (off+j) default+k*b.getD j default)%p)=addK p k off b xs (j+1):=by
 apply List.ext_getElem (by simp)
 intro t h1 h2
 rw[List.getElem_set]
 simp only[addK,List.getElem_map,List.getElem_range]
 by_cases ht:off+j=t
 ·subst ht
  rw[if_pos rfl,if_pos (by omega),Nat.add_sub_cancel_left]
 ·rw[if_neg ht]
  have:(off≤t∧t<off+j)↔(off≤t∧t<off+(j+1)):=by omega
  simp only[this]
def addR(p k:Int)(i:Nat)(f:Nat→Nat→Int)(g:Nat→Int):Nat→Nat→Int:=fun i' j=>if i'=i then(f i j+k*g j)%p else f i' j
theorem addK_tab(p k:Int){r c i:Nat}(f:Nat→Nat→Int)(g:Nat→Int)(hi:i<r):addK p k (i*c) (rowL c g) (tab r c f) c=tab r c (addR p k i f g):=by
 apply List.ext_getElem (by simp)
 intro t h1 h2
 have ht:t<r*c:=by simpa using h2
 have hc:=pos_of_mul ht
 have e:t/c*c+t%c=t:=Nat.div_add_mod' t c
 have hm:t%c<c:=Nat.mod_lt _ hc
 have hd:t/c<r:=Nat.div_lt_of_lt_mul (by rw[Nat.mul_comm];exact ht)
 have hget:(tab r c f).getD t default=f (t/c) (t%c):=by
  have:=tab_get f hd hm
  rwa [e] at this
 simp only[addK,List.getElem_map,List.getElem_range,hget]
 by_cases h:t/c=i
 ·have h3:i*c≤t∧t<i*c+c:=by rw[←h];omega
  have h4:t-i*c=t%c:=by rw[←h];omega
  rw[if_pos h3,h4,rowL_get g hm]
  simp[tab,addR,h]
 ·have h3:¬(i*c≤t∧t<i*c+c):=fun⟨a,b⟩=>h (by
   rcases Nat.lt_trichotomy (t/c) i with h5|h5|h5
   ·have:=Nat.mul_le_mul_right c (show t/c+1≤i from h5)
    rw[Nat.add_mul,Nat.one_mul] at this;omega
   ·exact h5
   ·have:=Nat.mul_le_mul_right c (show i+1≤t/c from h5)
    rw[Nat.add_mul,Nat.one_mul] at this;omega)
  rw[if_neg h3]
  simp[tab,addR,h]
def dotK(f g:Nat→Nat→Int)(i c:Nat):Nat→Int
 |0=>0
 |k+1=>dotK f g i c k+f i k*g k c
theorem dotK_bd{f g:Nat→Nat→Int}{i c n:Nat}(hf:∀k,k<n→0≤f i k∧f i k≤4)(hg:∀k,k<n→0≤g k c∧g k c≤4):∀k,k≤n→0≤dotK f g i c k∧dotK f g i c k≤16*k
 |0,_=>by simp[dotK]
 |k+1,h=>by
  have h1:=dotK_bd hf hg k (by omega)
  have h2:=hf k (by omega)
  have h3:=hg k (by omega)
  have h4:f i k*g k c≤4*4:=Int.mul_le_mul h2.2 h3.2 h3.1 (by omega)
  have h5:=Int.mul_nonneg h2.1 h3.1
  simp only[dotK];push_cast;omega
def mulF(p:Int)(f g:Nat→Nat→Int)(n:Nat):Nat→Nat→Int:=fun i c=>dotK f g i c n%p
def mulK(p:Int)(f g:Nat→Nat→Int)(n i k:Nat):Nat→Nat→Int:=fun i' c=>if i'<i then mulF p f g n i' c else if i'=i then dotK f g i c k%p else 0
theorem mulK_zero(p:Int)(f g:Nat→Nat→Int)(n:Nat):mulK p f g n 0 0=fun _ _=>0:=by
 funext i c
 simp[mulK,dotK]
theorem mulK_step(p:Int)(f g:Nat→Nat→Int)(n i k:Nat):addR p (f i k) i (mulK p f g n i k) (g k)=mulK p f g n i (k+1):=by
 funext i' c
 simp only[addR,mulK]
 by_cases h:i'=i
 ·subst h
  simp only[Nat.lt_irrefl,if_false,if_true,dotK]
  rw[Int.emod_add_emod]
 ·simp[h]
theorem mulK_next(p:Int)(f g:Nat→Nat→Int)(n i:Nat):mulK p f g n i n=mulK p f g n (i+1) 0:=by
 funext i' c
 simp only[mulK]
 rcases Nat.lt_trichotomy i' i with h|h|h
 ·rw[if_pos h,if_pos (by omega)]
 ·subst h
  rw[if_neg (by omega),if_pos rfl,if_pos (by omega)];rfl
 ·rw[if_neg (by omega),if_neg (by omega),if_neg (by omega)]
  split<;>simp[dotK]
theorem mulK_all(p:Int)(f g:Nat→Nat→Int)(n r c:Nat):tab r c (mulK p f g n r 0)=tab r c (mulF p f g n):=tab_ext fun i hi j hj=>by simp[mulK,hi]
theorem mulF_bd{p:Int}(hp:0<p)(f g:Nat→Nat→Int)(n r c:Nat):BdF p r c (mulF p f g n):=fun i hi j hj=>mod_bd hp
theorem mulK_bd{p:Int}(hp:0<p)(f g:Nat→Nat→Int)(n i k r c:Nat):BdF p r c (mulK p f g n i k):=fun i' hi j hj=>by
 unfold mulK
 split
 ·exact mod_bd hp
 ·split
  ·exact mod_bd hp
  ·omega
def mulP(p:Int)(f g:Nat→Nat→Int)(n i k:Nat):Nat→Nat→Int:=fun i' c=>if i'<i∨(i'=i∧c<k) then mulF p f g n i' c else 0
theorem mulP_zero(p:Int)(f g:Nat→Nat→Int)(n:Nat):mulP p f g n 0 0=fun _ _=>0:=by
 funext i c
 simp[mulP]
theorem mulP_set(p:Int)(f g:Nat→Nat→Int)(n i k:Nat):updF (mulP p f g n i k) i k (dotK f g i k n%p)=mulP p f g n i (k+1):=by
 funext i' c
 simp only[updF,mulP]
 by_cases h:i'=i∧c=k
 ·obtain⟨rfl,rfl⟩:=h
  rw[if_pos ⟨rfl,rfl⟩,if_pos (.inr ⟨rfl,by omega⟩)];rfl
 ·rw[if_neg h]
  have:(i'<i∨(i'=i∧c<k))↔(i'<i∨(i'=i∧c<k+1)):=by omega
  simp only[this]
theorem mulP_next(p:Int)(f g:Nat→Nat→Int)(n i r c:Nat):tab r c (mulP p f g n i c)=tab r c (mulP p f g n (i+1) 0):=tab_ext fun i' hi j hj=>by
 have e:(i'<i∨(i'=i∧j<c))↔(i'<i+1∨(i'=i+1∧j<0)):=by omega
 simp only[mulP,e]
theorem mulP_all(p:Int)(f g:Nat→Nat→Int)(n r c:Nat):tab r c (mulP p f g n r 0)=tab r c (mulF p f g n):=tab_ext fun i hi j hj=>by simp[mulP,hi]
def mulM(p:Int)(x y:Mat):Mat:=tm x.r.toNat y.c.toNat (mulF p (ent x) (ent y) x.c.toNat)
def plusM(p:Int)(x:Mat)(k:Int)(y:Mat):Mat:=⟨x.r,x.c,addK p k 0 y.m x.m y.m.length⟩
theorem addK_full(p k:Int)(f g:Nat→Nat→Int)(r c:Nat):addK p k 0 (tab r c g) (tab r c f) (tab r c g).length=tab r c (fun i j=>(f i j+k*g i j)%p):=by
 apply List.ext_getElem (by simp)
 intro t h1 h2
 have ht:t<r*c:=by simpa using h2
 have hg:∀h:Nat→Nat→Int,(tab r c h).getD t default=h (t/c) (t%c):=fun h=>by simp[tab,ht]
 simp only[addK,List.getElem_map,List.getElem_range,hg,Nat.sub_zero]
 rw[if_pos (by rw[tab_len];omega)]
 simp[tab]
section
variable {P : Program} {w0 : World} {MP : Fr} {d : Option Tmp} {ty : TypeId} {pos : String} {af : Array Edge} {g : Option (Nat × Bool)} {x y : Operand} {E : Nat → AV} {hp : Nat → Ob} {nx : Nat}
theorem A.slcQ{t e bys o n r c i:Nat}{zz:Value}{ol oh:Operand}{l oo:Bool}{f:Nat→Nat→Int}[hu:HasU P t (.slice e)][hi:HasI P e 1 bys zz](hx:evA ⟨E,hp,nx⟩ x=.sl o n 0 n)(hh:hp o=.live l 1 (V.E oo (tab r c f)))(hl:evA ⟨E,hp,nx⟩ ol=.i ((i:Int)*(c:Int)))(hr:evA ⟨E,hp,nx⟩ oh=.i (((i:Int)+1)*(c:Int)))(h1:i<r)(hn:n=r*c):
  ASil true P w0 MP ⟨E,hp,nx⟩ ⟨d,.slice t x (some ol) (some oh) none,ty,pos,af,g⟩ (.sl o n (i*c) c):=by
 have hle:(i+1)*c≤r*c:=Nat.mul_le_mul_right c h1
 have e1:(i+1)*c=i*c+c:=by rw[Nat.add_mul,Nat.one_mul]
 have h:=A.slcS (P:=P) (w0:=w0) (MP:=MP) (d:=d) (ty:=ty) (pos:=pos) (af:=af) (g:=g) (t:=t) (e:=e) (ol:=some ol) (oh:=some oh) (lo:=i*c) (hi':=(i+1)*c) hx hh (by rw[E_length,tab_len,hn]) (by show evA _ ol=_;rw[hl];push_cast;rfl) (by show evA _ oh=_;rw[hr];push_cast;rfl) (by omega) (by omega)
 have e2:(i+1)*c-i*c=c:=by omega
 rwa [Nat.zero_add,e2] at h
theorem A.slcQD{t e bys r c i:Nat}{zz:Value}{ol oh:Operand}{o oo:Bool}{f:Nat→Nat→Int}[hu:HasU P t (.slice e)][hi:HasI P e 1 bys zz](hx:evA ⟨E,hp,nx⟩ x=.dt o 1 (V.E oo (tab r c f)))(hl:evA ⟨E,hp,nx⟩ ol=.i ((i:Int)*(c:Int)))(hr:evA ⟨E,hp,nx⟩ oh=.i (((i:Int)+1)*(c:Int)))(h1:i<r):
  ASil true P w0 MP ⟨E,hp,nx⟩ ⟨d,.slice t x (some ol) (some oh) none,ty,pos,af,g⟩ (.dt false 1 (V.E oo (rowL c (f i)))):=by
 have hle:(i+1)*c≤r*c:=Nat.mul_le_mul_right c h1
 have e1:(i+1)*c=i*c+c:=by rw[Nat.add_mul,Nat.one_mul]
 have h:=A.slcD (α:=Int) (P:=P) (w0:=w0) (MP:=MP) (d:=d) (ty:=ty) (pos:=pos) (af:=af) (g:=g) (t:=t) (e:=e) (ol:=some ol) (oh:=some oh) (lo:=i*c) (hi':=(i+1)*c) hx (by show evA _ ol=_;rw[hl];push_cast;rfl) (by show evA _ oh=_;rw[hr];push_cast;rfl) (by omega) (by rw[tab_len];exact hle)
 have e2:((tab r c f).take ((i+1)*c)).drop (i*c)=rowL c (f i):=by
  rw[←tab_row f h1,List.drop_take]
  congr 1;omega
 rwa [e2] at h
end
theorem q1{p p':Prop}(h:p')(hs:p'→p:=by
 intro h
 (refine kR ?_;first
  |exact F.sil (A.idxQ rfl rfl rfl (by omega) (by omega) (by first|rfl|(simp[tab_len];done)) (by first|rfl|(simp[tab_len];done))) rfl rfl h
  |exact F.sil (A.ldQ rfl rfl (by omega) (by omega) (by first|rfl|(simp[tab_len];done))) rfl rfl h
  |exact F.sil (A.idxQD rfl rfl (by omega) (by omega)) rfl rfl h
  |exact F.sil (A.idxRD rfl rfl (by omega)) rfl rfl h
  |exact F.stQ rfl rfl rfl (by omega) (by omega) (by first|rfl|(simp[tab_len];done)) rfl rfl rfl h)):p:=hs h
end Go.Proofs.YtjmjamhhppoimaaGreat.V
