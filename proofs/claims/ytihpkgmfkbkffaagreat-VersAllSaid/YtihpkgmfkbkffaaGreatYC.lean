/- Part 3 of what the proofs of these rest on: All. -/
import Derived.Test.YtihpkgmfkbkffaaGreatYA
import Derived.Test.YtihpkgmfkbkffaaGreatYB
import Derived.Laws.IdiomStrings
import Derived.Lib.Overlaps
import Derived.Laws.Externs
import Derived.Lib.Bytealg
set_option linter.unusedVariables false
set_option linter.unusedSimpArgs false
set_option linter.unusedSectionVars false
section
namespace Go.Pl
open Go Go.Sx
theorem take_succ{α:Type}{l:List α}{i:Nat}{x:α}(h:l[i]? =some x):l.take (i+1)=l.take i++[x]:=by
 have hi:i<l.length:=(List.getElem?_eq_some_iff.1 h).1
 rw[List.take_succ_eq_append_getElem hi]
 rw[List.getElem?_eq_getElem hi]at h
 rw[Option.some.inj h]
theorem nth{α:Type}{l:List α}{i:Nat}(h:i<l.length):∃x,l[i]? =some x:=⟨_,List.getElem?_eq_getElem h⟩
def ym(n:Int):Nat:=if n<0 then(-2*n-1).toNat else(2*n).toNat
def iL(u:Nat):List UInt8:=if u<128 then[UInt8.ofNat u]else UInt8.ofNat (u%128+128)::iL (u/128)
termination_by u
decreasing_by omega
def put(n:Int):List UInt8:=iL (ym n)
theorem y_{n:Int}(h1: -9223372036854775808<=n)(h2:n<=9223372036854775807):ym n<18446744073709551616:=by unfold ym;split<;>omega
theorem DM(x:Int)(h0:0<=x)(h1:x<=18446744073709551615):
 IntKind.u64.wrap ((BitVec.ofInt IntKind.u64.bits (if IntKind.u64.signed then -1 else IntKind.u64.max)^^^BitVec.ofInt IntKind.u64.bits x).toNat:Int)=18446744073709551615-x:=by
 show IntKind.u64.wrap (((BitVec.ofInt 64 18446744073709551615^^^BitVec.ofInt 64 x).toNat:Nat):Int)=_
 have e1:BitVec.ofInt 64 18446744073709551615=BitVec.allOnes 64:=by decide
 rw[e1,BitVec.allOnes_xor,BitVec.toNat_not,BitVec.toNat_ofInt,wrap_u64 (by omega) (by omega)]
 omega
theorem M5:∀x:Fin 256,IntKind.u8.wrap ((BitVec.ofInt IntKind.u8.bits (x.val:Int)|||BitVec.ofInt IntKind.u8.bits 128).toNat:Int)=((x.val%128+128:Nat):Int):=by decide+kernel
theorem J3(u:Nat):IntKind.u8.wrap (u:Int)=((u%256:Nat):Int):=by rw[IntKind.wrap_u8];omega
theorem J4(u:Nat):IntKind.u8.wrap ((BitVec.ofInt IntKind.u8.bits (IntKind.u8.wrap (u:Int))|||BitVec.ofInt IntKind.u8.bits 128).toNat:Int)=((UInt8.ofNat (u%128+128)).toNat:Int):=by
 rw[J3 u]
 have:=M5 ⟨u%256,by omega⟩
 simp only at this
 rw[this,UInt8.toNat_ofNat']
 omega
theorem P2(u:Nat):(u:Int).fdiv (2^min (7:Int).toNat IntKind.u64.bits)=((u/128:Nat):Int):=by
 have:(2:Int)^min (7:Int).toNat IntKind.u64.bits=128:=by decide
 rw[this,Int.fdiv_eq_ediv_of_nonneg _ (by omega)]
 omega
theorem EI{n:Int}(h0:0<=n)(h2:n<=9223372036854775807):IntKind.u64.wrap (IntKind.u64.wrap n*2^min (1:Int).toNat IntKind.u64.bits)=((ym n:Nat):Int):=by
 have:(2:Int)^min (1:Int).toNat IntKind.u64.bits=2:=by decide
 rw[this,wrap_u64 h0 (by omega),wrap_u64 (by omega) (by omega)]
 unfold ym
 rw[if_neg (by omega)]
 omega
theorem EJ{n:Int}(h0:n<0)(h1: -9223372036854775808<=n):IntKind.u64.wrap (IntKind.u64.wrap n*2^min (1:Int).toNat IntKind.u64.bits)=18446744073709551616+2*n:=by
 have:(2:Int)^min (1:Int).toNat IntKind.u64.bits=2:=by decide
 rw[this,IntKind.wrap_u64,IntKind.wrap_u64]
 omega
theorem xG:∀(k u:Nat),u<128^(k+1)->(iL u).length<=k+1:=by
 intro k
 induction k with
 |zero=>intro u h;rw[iL,if_pos (by simpa using h)];simp
 |succ k ih=>
  intro u h
  rw[iL]
  split
  . simp
  . have:u/128<128^(k+1):=by
     rw[Nat.div_lt_iff_lt_mul (by omega)]
     rw[Nat.pow_succ]at h
     exact h
    have:=ih _ this
    simp only[List.length_cons]
    omega
theorem EK(u:Nat)(h:u<18446744073709551616):(iL u).length<=10:=xG 9 u (Nat.lt_of_lt_of_le h (by decide))
theorem eE{n:Int}(h1: -9223372036854775808<=n)(h2:n<=9223372036854775807):(put n).length<=10:=EK _ (y_ h1 h2)
theorem rm{u:Nat}(h:¬u<128):iL u=UInt8.ofNat (u%128+128)::iL (u/128):=by rw[iL,if_neg h]
theorem fK{u:Nat}(h:u<128):iL u=[UInt8.ofNat u]:=by rw[iL,if_pos h]
def aQ(s:ByteArray):List UInt8:=put s.size++s.data.toList
def dV(u:Nat):Int:=if u%2=1 then -((u/2:Nat):Int)-1 else((u/2:Nat):Int)
def ir:Nat->Nat->List UInt8->Int×Int×Int
 |_,_,[]=>(0,0,2)
 |i,u,c::l=>
  if i=9/\1<c.toNat then(0,0,1)
  else if 127<c.toNat then ir (i+1) (u+c.toNat%128*128^i) l
  else if 0<i/\c.toNat=0 then(0,0,1)
  else(dV (u+c.toNat%128*128^i),((i+1:Nat):Int),0)
def get(l:List UInt8):Int×Int×Int:=ir 0 0 l
theorem J5:∀x:Fin 256,IntKind.u8.wrap ((BitVec.ofInt IntKind.u8.bits (x.val:Int)&&&BitVec.ofInt IntKind.u8.bits 127).toNat:Int)=((x.val%128:Nat):Int):=by decide+kernel
theorem A1(c:UInt8):IntKind.u8.wrap ((BitVec.ofInt IntKind.u8.bits (c.toNat:Int)&&&BitVec.ofInt IntKind.u8.bits 127).toNat:Int)=((c.toNat%128:Nat):Int):=J5 ⟨c.toNat,c.toNat_lt⟩
theorem ofInt64{x:Nat}(h:x<18446744073709551616):(BitVec.ofInt 64 (x:Int)).toNat=x:=by rw[BitVec.toNat_ofInt];omega
theorem P3{a b:Nat}(ha:a<18446744073709551616)(hb:b<18446744073709551616):
 IntKind.u64.wrap ((BitVec.ofInt IntKind.u64.bits (a:Int)|||BitVec.ofInt IntKind.u64.bits (b:Int)).toNat:Int)=((a|||b:Nat):Int):=by
 show IntKind.u64.wrap (((BitVec.ofInt 64 (a:Int)|||BitVec.ofInt 64 (b:Int)).toNat:Nat):Int)=_
 rw[BitVec.toNat_or,ofInt64 ha,ofInt64 hb]
 have:a|||b<2^64:=Nat.or_lt_two_pow (by simpa using ha) (by simpa using hb)
 exact wrap_u64 (by omega) (by omega)
theorem qp{a:Nat}(ha:a<18446744073709551616):IntKind.u64.wrap ((BitVec.ofInt IntKind.u64.bits (a:Int)&&&BitVec.ofInt IntKind.u64.bits 1).toNat:Int)=((a%2:Nat):Int):=by
 show IntKind.u64.wrap (((BitVec.ofInt 64 (a:Int)&&&BitVec.ofInt 64 ((1:Nat):Int)).toNat:Nat):Int)=_
 rw[BitVec.toNat_and,ofInt64 ha,ofInt64 (by omega),Nat.and_one_is_mod]
 exact wrap_u64 (by omega) (by omega)
theorem uv{n:Int}(h0:0<=n)(h1:n<=9223372036854775807):
 IntKind.i64.wrap ((BitVec.ofInt IntKind.i64.bits (if IntKind.i64.signed then -1 else IntKind.i64.max)^^^BitVec.ofInt IntKind.i64.bits n).toNat:Int)= -n-1:=by
 show IntKind.i64.wrap (((BitVec.ofInt 64 (-1)^^^BitVec.ofInt 64 n).toNat:Nat):Int)=_
 have e1:BitVec.ofInt 64 (-1)=BitVec.allOnes 64:=by decide
 rw[e1,BitVec.allOnes_xor,BitVec.toNat_not,BitVec.toNat_ofInt,IntKind.wrap_i64]
 omega
theorem Jn(i:Nat):(128:Nat)^i=2^(7*i):=by rw[Nat.pow_mul]
theorem A2{i:Nat}(h:i<=9):(128:Nat)^i<=9223372036854775808:=by
 have:(128:Nat)^i<=128^9:=Nat.pow_le_pow_right (by omega) h
 have e:(128:Nat)^9=9223372036854775808:=by decide
 omega
theorem wJ{i u:Nat}{c:UInt8}(hi:i<=9)(hu:u<128^i)(hc:¬(i=9/\1<c.toNat)):u+c.toNat%128*128^i<18446744073709551616:=by
 have h1:=A2 hi
 by_cases h9:i=9
 . subst h9
   have e:(128:Nat)^9=9223372036854775808:=by decide
   rw[e]at hu⊢
   have Rz:c.toNat<=1:=by omega
   have:c.toNat%128<=1:=by omega
   omega
 . have h2:(128:Nat)^(i+1)<=128^9:=Nat.pow_le_pow_right (by omega) (by omega)
   have e:(128:Nat)^9=9223372036854775808:=by decide
   rw[e,Nat.pow_succ]at h2
   have h3:c.toNat%128*128^i<=127*128^i:=Nat.mul_le_mul_right _ (by omega)
   omega
theorem wK{i u:Nat}{c:UInt8}(hu:u<128^i):u+c.toNat%128*128^i<128^(i+1):=by
 rw[Nat.pow_succ]
 have h3:c.toNat%128*128^i<=127*128^i:=Nat.mul_le_mul_right _ (by omega)
 omega
theorem A3{i:Nat}{x:Nat}(hi:i<=9)(h:x*128^i<18446744073709551616):
 IntKind.u64.wrap (IntKind.u64.wrap (x:Int)*2^min (IntKind.i64.wrap (7*(i:Int))).toNat IntKind.u64.bits)=((x*128^i:Nat):Int):=by
 have hpos:1<=(128:Nat)^i:=Nat.one_le_pow _ _ (by omega)
 have hx:x<=x*128^i:=Nat.le_mul_of_pos_right _ hpos
 rw[wrap_i64 (by omega) (by omega),wrap_u64 (n:=(x:Int)) (by omega) (by omega)]
 have e1:min (7*(i:Int)).toNat IntKind.u64.bits=7*i:=by
  have:IntKind.u64.bits=64:=rfl
  omega
 rw[e1]
 have e2:(x:Int)*2^(7*i)=((x*128^i:Nat):Int):=by
  rw[Jn];simp
 rw[e2]
 exact wrap_u64 (by omega) (by omega)
theorem D9{i u x:Nat}(hi:i<=9)(hu:u<128^i)(h:x*128^i<18446744073709551616):
 IntKind.u64.wrap ((BitVec.ofInt IntKind.u64.bits (u:Int)|||BitVec.ofInt IntKind.u64.bits ((x*128^i:Nat):Int)).toNat:Int)=((u+x*128^i:Nat):Int):=by
 have h1:=A2 hi
 rw[P3 (by omega) h]
 congr 1
 rw[Nat.add_comm,Nat.or_comm,Jn,Nat.mul_comm]
 rw[Jn]at hu
 exact(Nat.two_pow_add_eq_or_of_lt hu x).symm
theorem jC{u:Nat}(h:u<18446744073709551616):IntKind.i64.wrap ((u:Int).fdiv (2^min (1:Int).toNat IntKind.u64.bits))=((u/2:Nat):Int):=by
 have:(2:Int)^min (1:Int).toNat IntKind.u64.bits=2:=by decide
 rw[this,Int.fdiv_eq_ediv_of_nonneg _ (by omega),wrap_i64 (by omega) (by omega)]
 omega
def bg(l:List UInt8):ByteArray×Int×Int:=
 match get l with
 |(n,k,e)=>
  if e≠0 then(IG [],0,e)else if n<0\/65536<n then(IG [],0,1)
  else if(l.length:Int)-k<n then(IG [],0,2)else(IG ((l.take (k+n).toNat).drop k.toNat),k+n,0)
def Bz(s:ByteArray)(n:Nat):ByteArray:=if n<s.size then s.extract 0 n else s
theorem sN(s:ByteArray):s.size=0↔s=⟨#[]⟩:=by
 constructor
 . intro h;cases s with|mk d=>congr 1;exact Array.eq_empty_of_size_eq_zero h
 . intro h;subst h;rfl
theorem J6:∀(l:List UInt8) (i u:Nat),(ir i u l).2.2=0->(i:Int)<(ir i u l).2.1/\(ir i u l).2.1<=(i:Int)+l.length:=by
 intro l
 induction l with
 |nil=>intro i u h;simp[ir]at h
 |cons c l ih=>
  intro i u
  rw[ir]
  split
  . intro h;simp at h
  . split
    . intro h
      have:=ih _ _ h
      simp only[List.length_cons]
      omega
    . split
      . intro h;simp at h
      . intro _;simp only[List.length_cons];omega
theorem pq{l:List UInt8}(h:(get l).2.2=0):0<(get l).2.1/\(get l).2.1<=l.length:=by
 have:=J6 l 0 0 h
 unfold get
 omega
end Go.Pl
end
section
namespace Go.Pl
open Go Go.Sx
theorem B2(n:Int):dV (ym n)=n:=by
 unfold dV ym
 split<;>split<;>omega
theorem B3:∀(k i u base:Nat) (rest:List UInt8),i+k=9->u<2*128^k->(i=0\/0<u)->
 ir i base (iL u++rest)=(dV (base+u*128^i),((i+(iL u).length:Nat):Int),0):=by
 intro k
 induction k with
 |zero=>
  intro i u base rest hi hu h0
  have Rs:u<2:=by simpa using hu
  rw[fK (by omega)]
  have hc:(UInt8.ofNat u).toNat=u:=by rw[UInt8.toNat_ofNat'];omega
  show ir i base (UInt8.ofNat u::rest)=_
  rw[ir,hc,if_neg (by omega),if_neg (by omega),if_neg (by omega),show u%128=u by omega]
  rfl
 |succ k ih=>
  intro i u base rest hi hu h0
  by_cases hb:u<128
  . rw[fK hb]
    have hc:(UInt8.ofNat u).toNat=u:=by rw[UInt8.toNat_ofNat'];omega
    show ir i base (UInt8.ofNat u::rest)=_
    rw[ir,hc,if_neg (by omega),if_neg (by omega),if_neg (by omega),show u%128=u by omega]
    rfl
  . rw[rm hb]
    have hc:(UInt8.ofNat (u%128+128)).toNat=u%128+128:=by rw[UInt8.toNat_ofNat'];omega
    show ir i base (UInt8.ofNat (u%128+128)::(iL (u/128)++rest))=_
    rw[ir,hc,if_neg (by omega),if_pos (by omega)]
    rw[ih (i+1) (u/128) _ rest (by omega) (by rw[Nat.pow_succ]at hu;omega) (by omega)]
    have e1:(u%128+128)%128=u%128:=by omega
    rw[e1,Nat.pow_succ]
    have e2:base+u%128*128^i+u/128*(128^i*128)=base+u*128^i:=by
     have:u*128^i=u%128*128^i+u/128*(128^i*128):=by
      conv=>lhs;rw[<-Nat.mod_add_div u 128]
      rw[Nat.add_mul,Nat.mul_comm 128 (u/128),Nat.mul_assoc,Nat.mul_comm 128 (128^i)]
     omega
    rw[e2]
    simp only[List.length_cons]
    congr 2
    omega
theorem gy{n:Int}(h1: -9223372036854775808<=n)(h2:n<=9223372036854775807)(rest:List UInt8):get (put n++rest)=(n,((put n).length:Int),0):=by
 unfold get put
 rw[B3 9 0 (ym n) 0 rest rfl (Nat.lt_of_lt_of_le (y_ h1 h2) (by decide)) (.inl rfl)]
 simp[B2]
theorem ei(s:ByteArray):(aQ s).length=(put s.size).length+s.size:=by
 unfold aQ;rw[List.length_append];congr 1
theorem f_{s:ByteArray}(h:s.size<=65536)(rest:List UInt8):bg (aQ s++rest)=(s,((aQ s).length:Int),0):=by
 have hsz:s.data.toList.length=s.size:=Array.length_toList
 have hlen:=ei s
 unfold bg
 have e:aQ s++rest=put s.size++(s.data.toList++rest):=by unfold aQ;rw[List.append_assoc]
 rw[e,gy (by omega) (by omega)]
 dsimp only
 rw[if_neg (by omega),if_neg (by omega),if_neg (by simp only[List.length_append];omega)]
 have e2:((put s.size).length+(s.size:Int)).toNat=(put s.size).length+s.size:=by omega
 have e3:(((put s.size).length:Int)).toNat=(put s.size).length:=by omega
 rw[e2,e3]
 have e4:((put s.size++(s.data.toList++rest)).take ((put s.size).length+s.size)).drop (put s.size).length=s.data.toList:=by
  rw[List.take_length_add_append,List.drop_left,<-hsz,List.take_left]
 rw[e4,hlen]
 congr 2
end Go.Pl
end
section
namespace Go.Pl
open Go Go.Sx
theorem zL(l:List UInt8):dy (l.flatMap bD)=true:=rQ (fun _=>rfl) l
def fT(n:Nat):List UInt8:=List.replicate n 0
theorem fu(a:Nat):(fT a).length=a:=List.length_replicate
def aF(no:Int):Prop:=0<=no/\no<96
instance(no:Int):Decidable (aF no):=by unfold aF;exact inferInstance
def eW(now:Int->List UInt8)(no:Int)(b:List UInt8):Int->List UInt8:=fun k=>if k=no then b else now k
abbrev sC:=Int×List UInt8
def lz(l:List sC):Prop:=l≠[]/\(∀x∈l,aF x.1/\x.2.length=256)/\l.Pairwise fun x y=>x.1<y.1
noncomputable instance(l:List sC):Decidable (lz l):=Classical.propDecidable _
def qM(l:List sC)(i:Nat):Prop:=(∀x∈l.take i,aF x.1/\x.2.length=256)/\(l.take i).Pairwise fun x y=>x.1<y.1
theorem qM.zero(l:List sC):qM l 0:=⟨by simp,by simp⟩
theorem qM.step{l:List sC}{i:Nat}{x:sC}(h:qM l i)(hx:l[i]? =some x)(h1:aF x.1)(h2:x.2.length=256)(h3:∀j y,i=j+1->l[j]? =some y->y.1<x.1):qM l (i+1):=by
 have hs:=take_succ hx
 refine⟨fun y hy=> ?_,?_⟩
 . rw[hs]at hy
   rcases List.mem_append.1 hy with hy|hy
   . exact h.1 y hy
   . rw[List.mem_singleton]at hy;subst hy;exact⟨h1,h2⟩
 . rw[hs,List.pairwise_append]
   refine⟨h.2,by simp,fun a ha c hc=> ?_⟩
   rw[List.mem_singleton]at hc;subst hc
   match i,h,h3,ha with
   |0,_,_,ha=>simp at ha
   |j+1,h,h3,ha=>
    have hj:j<l.length:=by have:=(List.getElem?_eq_some_iff.1 hx).1;omega
    obtain⟨y,hy⟩:=nth hj
    have OS:=h3 j y rfl hy
    have hp:=h.2
    rw[take_succ hy]at ha hp
    rw[List.pairwise_append]at hp
    rcases List.mem_append.1 ha with ha|ha
    . have:=hp.2.2 a ha y (by simp);omega
    . rw[List.mem_singleton]at ha;subst ha;exact OS
theorem qM.all{l:List sC}(h:qM l l.length)(hne:0<l.length):lz l:=by
 have h1:=h.1;have h2:=h.2
 rw[List.take_length]at h1 h2
 exact⟨by intro e;subst e;simp at hne,h1,h2⟩
theorem zM:∀{l:List sC} {a:Int},0<=a->a<=96->(∀x∈l,a<=x.1/\x.1<96)->(l.Pairwise fun x y=>x.1<y.1)->(l.length:Int)<=96-a:=by
 intro l
 induction l with
 |nil=>intro a h0 h1 _ _;simp;omega
 |cons x l ih=>
  intro a h0 h1 h hp
  obtain⟨a1,a2⟩:=h x (by simp)
  rw[List.pairwise_cons]at hp
  have:=ih (a:=x.1+1) (by omega) (by omega) (fun y hy=>⟨by have:=hp.1 y hy;omega,(h y (by simp[hy])).2⟩) hp.2
  simp only[List.length_cons];omega
theorem lz.j7{l:List sC}(h:lz l):l.length<=96:=by
 have:=zM (l:=l) (a:=0) (by omega) (by omega) (fun x hx=>(h.2.1 x hx).1) h.2.2
 omega
theorem lz.pos{l:List sC}(h:lz l):0<l.length:=by
 cases l with
 |nil=>exact absurd rfl h.1
 |cons x l=>simp
theorem d_(n:Int):1<=(put n).length:=by unfold put;rw[iL];split<;>simp
theorem Gw{n:Int}(h0:0<=n)(h1:n<=65536):1<=(put n).length/\(put n).length<=10:=⟨d_ n,eE (by omega) (by omega)⟩
abbrev ah:=Int->List UInt8
def lay(P:ah)(l:List sC):ah:=l.foldl (fun P x=>eW P x.1 x.2) P
def vP(P P':ah):Prop:=∀no,aF no->P no=P' no
theorem vP.refl(P:ah):vP P P:=fun _ _=>rfl
theorem vP.symm{P P':ah}(h:vP P P'):vP P' P:=fun no hn=>(h no hn).symm
theorem vP.trans{P P' RA:ah}(h:vP P P')(h':vP P' RA):vP P RA:=fun no hn=>(h no hn).trans (h' no hn)
theorem vP.eW{P P':ah}(h:vP P P')(no:Int)(b:List UInt8):vP (eW P no b) (eW P' no b):=fun k hk=>by
 unfold Go.Pl.eW;split
 . rfl
 . exact h k hk
theorem vP.lay:∀{l:List sC} {P P':ah},vP P P'->vP (lay P l) (lay P' l):=by
 intro l
 induction l with
 |nil=>intro P P' h;exact h
 |cons x l ih=>intro P P' h;exact ih (h.eW _ _)
def nH(l:List sC)(no:Int):Prop:=∃x∈l,x.1=no
theorem nH.append{l m:List sC}{no:Int}:nH (l++m) no↔nH l no\/nH m no:=by
 unfold nH;simp only[List.mem_append]
 constructor
 . rintro⟨x,h|h,e⟩
   . exact .inl ⟨x,h,e⟩
   . exact .inr ⟨x,h,e⟩
 . rintro(⟨x,h,e⟩|⟨x,h,e⟩)
   . exact⟨x,.inl h,e⟩
   . exact⟨x,.inr h,e⟩
structure Im where
 no:Int
 v:Value
 b:List UInt8
def qN(x:Im):List Value:=[.int .i64 x.no,x.v]
def Im.FR(x:Im):sC:=(x.no,x.b)
def iM(ts:List Im):List sC:=ts.map Im.FR
structure l_(hs:List Chunk)(v:Value)(ts:List Im):Prop where
 row:Row qN 2 hs v ts
 each:∀t∈ts,Row bD 1 hs t.v t.b
 j7:ts.length<=9223372036854775807
 len:∀t∈ts,t.b.length<=9223372036854775807
theorem l_.mono{hs hs':List Chunk}{v:Value}{ts:List Im}(h:l_ hs v ts)(hh:∀b o,Has hs b o->Has hs' b o):l_ hs' v ts:=⟨h.row.mono hh,fun t ht=>(h.each t ht).mono hh,h.j7,h.len⟩
theorem l_.there{A:Chunk}{hs:List Chunk}{v:Value}{ts:List Im}(h:l_ hs v ts):l_ (A::hs) v ts:=h.mono fun _ _=> .there
theorem A4{ts:List Im}{i:Nat}{t:Im}(h:ts[i]? =some t):(iM ts)[i]? =some t.FR:=by unfold iM;rw[List.getElem?_map,h];rfl
theorem p5(ts:List Im):(iM ts).length=ts.length:=List.length_map _
theorem p6(ts us:List Im):iM (ts++us)=iM ts++iM us:=by unfold iM;rw[List.map_append]
theorem rW{α:Type}{enc:α->List Value}{sz:Nat}{hs:List Chunk}{v:Value}{xs:List α}(h:Row enc sz hs v xs):gE v=true:=by
 obtain⟨a,c,rfl⟩:=h.len;rfl
theorem _root_.Go.Sx.Own.gE{α:Type}{enc:α->List Value}{sz e:Nat}{v:Value}{xs:List α}{H:Chunk}(h:Own enc sz e v xs H):gE v=true:=rW (h.row (hs:=[]))
abbrev It:=Im×Chunk
def gz(us:List It):Chunk:=(us.map (·.2)).flatten
theorem od(us:List It)(u:It):gz (us++[u])=gz us++u.2:=by unfold gz;simp
structure qX(tI tU:Nat)(v:Value)(ts:List Im)(H:Chunk):Prop where
 is:∃us K,us.map (·.1)=ts/\(∀u∈us,Own bD 1 tU u.1.v u.1.b u.2)/\Own qN 2 tI v ts K/\H=K++gz us
theorem s7{A B:Chunk}{hs:List Chunk}{b:Nat}{o:Obj}(h:Has (A::B::hs) b o):Has ((A++B)::hs) b o:=
 Has.mI (by have:=h.mem;simpa using this)
theorem J7{us:List It}{u:It}(hu:u∈us){hs:List Chunk}{b:Nat}{o:Obj}(h:Has [u.2] b o):Has (gz us::hs) b o:=by
 refine .here ?_
 have hm:=h.mem
 simp only[List.flatten_cons,List.flatten_nil,List.append_nil]at hm
 unfold gz
 exact List.mem_flatten.2 ⟨u.2,List.mem_map.2 ⟨u,hu,rfl⟩,hm⟩
theorem mD{A:Chunk}{hs:List Chunk}{b:Nat}{o:Obj}(h:Has [A] b o):Has (A::hs) b o:=Has.mI (by have:=h.mem;simp at this;simp[this])
theorem qX.at{tI tU:Nat}{v:Value}{ts:List Im}{H:Chunk}(h:qX tI tU v ts H)(hf:ts.length<=9223372036854775807)(hl:∀t∈ts,t.b.length<=9223372036854775807){hs:List Chunk}:l_ (H::hs) v ts:=by
 obtain⟨us,K,rfl,h2,h3,rfl⟩:=h.is
 refine⟨(h3.row (hs:=[])).mono fun b o hb=>s7 (mD hb),fun t ht=> ?_,hf,hl⟩
 obtain⟨u,hu,rfl⟩:=List.mem_map.1 ht
 exact((h2 u hu).row (hs:=[])).mono fun b o hb=>s7 (.there (J7 hu hb))
structure Raw where
 no:Int
 v:Value
 b:List UInt8
 Um:Bool
def J8(x:Raw):List Value:=[.int .i64 x.no,x.v,.bool x.Um]
structure mK(hs:List Chunk)(v:Value)(ts:List Raw):Prop where
 row:Row J8 3 hs v ts
 each:∀t∈ts,Row bD 1 hs t.v t.b
 j7:ts.length<=9223372036854775807
theorem mK.mono{hs hs':List Chunk}{v:Value}{ts:List Raw}(h:mK hs v ts)(hh:∀b o,Has hs b o->Has hs' b o):mK hs' v ts:=⟨h.row.mono hh,fun t ht=>(h.each t ht).mono hh,h.j7⟩
theorem mK.there{A:Chunk}{hs:List Chunk}{v:Value}{ts:List Raw}(h:mK hs v ts):mK (A::hs) v ts:=h.mono fun _ _=> .there
structure Un where
 kind:Int
 no:Int
 v:Value
 l:List Raw
 k:Value
 keep:List Bool
structure Ss(hs:List Chunk)(o:Un):Prop where
 kind: -9223372036854775808<=o.kind/\o.kind<=9223372036854775807
 no: -9223372036854775808<=o.no/\o.no<=9223372036854775807
 VH:mK hs o.v o.l
 keep:Row Gq 1 hs o.k o.keep
structure Su(tI:Nat)(hs:List Chunk)(v:Value)(l:List sC)(K E:Chunk):Prop where
 is:∃ts,iM ts=l/\Own qN 2 tI v ts K/\∀t∈ts,Row bD 1 (E::hs) t.v t.b
theorem Row.more{α:Type}{enc:α->List Value}{sz:Nat}{A B:Chunk}{hs:List Chunk}{v:Value}{xs:List α}(h:Row enc sz (A::hs) v xs):Row enc sz ((A++B)::hs) v xs:=
 h.mono fun b o hb=>Has.mI (by have:=hb.mem;simp only[List.flatten_cons,List.mem_append]at this⊢;rcases this with h|h;exact .inl (.inl h);exact .inr h)
theorem Has.ic{hs hs':List Chunk}(h:aZ hs' hs){b:Nat}{o:Obj}(hb:Has hs b o):Has hs' b o:=by
 obtain⟨rest,hp⟩:=h.perm
 exact Has.mI (hp.mem_iff.2 (List.mem_append_left _ hb.mem))
end Go.Pl
end
section
namespace Go.Pl
open Go Go.Sx
def av(no:Int):Prop:=2<=no/\no<32
instance(no:Int):Decidable (av no):=inferInstanceAs (Decidable (_/\_))
def hasB(bs:List UInt8)(no:Int):Bool:=decide (av no)&&decide ((bs.getD (no.toNat/8) 0).toNat/2^(no.toNat%8)%2=1)
def aI(Q:ah)(no:Int):Int×List UInt8:=if aF no then(0,Q no)else(3,[])
abbrev oO:=Int->Option (List UInt8)
def vq(c:oO)(no:Int)(b:List UInt8):oO:=fun k=>if k=no then some b else c k
def aX(x:Int×List UInt8):Int×List UInt8:=if x.1≠0 then(x.1,[])else if x.2.length≠256 then(1,[])else x
end Go.Pl
end
section
namespace Go.Pl
open Go Go.Sx
def Slot(hs:List Chunk)(v:Value)(bs:List UInt8):Prop:=(v= .slice none 0 0/\bs=fT 256)\/(∃a n c,v= .slice (some a) n c/\Row bD 1 hs v bs/\bs.length=256)
theorem Slot.mono{hs hs':List Chunk}{v:Value}{bs:List UInt8}(h:Slot hs v bs)(hh:∀b o,Has hs b o->Has hs' b o):Slot hs' v bs:=by
 rcases h with h|⟨a,n,c,h1,h2,h3⟩
 . exact .inl h
 . exact .inr ⟨a,n,c,h1,h2.mono hh,h3⟩
theorem Slot.len{hs:List Chunk}{v:Value}{bs:List UInt8}(h:Slot hs v bs):bs.length=256:=by
 rcases h with⟨_,h⟩|⟨_,_,_,_,_,h⟩
 . rw[h];exact fu 256
 . exact h
theorem Slot.gE{hs:List Chunk}{v:Value}{bs:List UInt8}(h:Slot hs v bs):gE v=true:=by
 rcases h with⟨h,_⟩|⟨_,_,_,h,_,_⟩<;>rw[h]<;>rfl
theorem Slot.J9{hs:List Chunk}{v:Value}{bs:List UInt8}(h:Row bD 1 hs v bs)(hl:bs.length=256):Slot hs v bs:=by
 obtain⟨a,c,e⟩:=h.len
 cases a with
 |none=>subst e;rw[h.AZ]at hl;cases hl
 |some a=>exact .inr ⟨a,_,c,e,h,hl⟩
theorem Slot.slice{hs:List Chunk}{v:Value}{bs:List UInt8}(h:Slot hs v bs):∃p n c,v= .slice p n c/\(p.isNone=true->bs=fT 256)/\(p.isNone=false->Row bD 1 hs v bs):=by
 rcases h with⟨rfl,h⟩|⟨a,n,c,rfl,h,_⟩
 . exact⟨_,_,_,rfl,fun _=>h,fun h=>by cases h⟩
 . exact⟨_,_,_,rfl,fun h=>(by cases h),fun _=>h⟩
structure fz(hs:List Chunk)(vs:List Value)(Q:ah):Prop where
 len:vs.length=96
 at_:∀k:Nat,k<96->∃v,vs[k]? =some v/\Slot hs v (Q (k:Nat))
theorem fz.mono{hs hs':List Chunk}{vs:List Value}{Q:ah}(h:fz hs vs Q)(hh:∀b o,Has hs b o->Has hs' b o):fz hs' vs Q:=
 ⟨h.len,fun k hk=>by obtain⟨v,h1,h2⟩:=h.at_ k hk;exact⟨v,h1,h2.mono hh⟩⟩
theorem fz.zero(hs:List Chunk):fz hs (List.replicate 96 (.slice none 0 0)) (fun _=>fT 256):=
 ⟨by simp,fun k hk=>⟨.slice none 0 0,by rw[List.getElem?_replicate,if_pos hk],.inl ⟨rfl,rfl⟩⟩⟩
theorem fz.put{hs:List Chunk}{vs:List Value}{Q:ah}(h:fz hs vs Q){k:Nat}(hk:k<96){v:Value}{bs:List UInt8}(hv:Slot hs v bs):fz hs (vs.set k v) (eW Q (k:Nat) bs):=by
 refine⟨by rw[List.length_set];exact h.len,fun j hj=> ?_⟩
 by_cases e:k=j
 . subst e;exact⟨v,List.getElem?_set_self (by rw[h.len];exact hk),by unfold eW;rw[if_pos rfl];exact hv⟩
 . obtain⟨w,h1,h2⟩:=h.at_ j hj
   exact⟨w,by rw[List.getElem?_set_ne e];exact h1,by unfold eW;rw[if_neg (by omega)];exact h2⟩
theorem fz.pT{hs:List Chunk}{vs:List Value}{Q:ah}(h:fz hs vs Q):∀no,aF no->(Q no).length=256:=fun no hn=>by
 unfold aF at hn
 obtain⟨v,_,h2⟩:=h.at_ no.toNat (by omega)
 rw[show((no.toNat:Nat):Int)=no by omega]at h2
 exact h2.len
def cE(vs:List Value):List Value:=vs++[.int .i64 0]
theorem HQ{vs:List Value}(h:vs.length=96){k:Nat}{v:Value}(hv:vs[k]? =some v){o:Nat}(ho:o=k):(cE vs)[o]? =some v:=by
 subst ho;unfold cE
 rw[List.getElem?_append_left (List.getElem?_eq_some_iff.1 hv).1];exact hv
theorem J_{vs:List Value}(h:vs.length=96):(cE vs)[96]? =some (.int .i64 0):=by
 unfold cE;rw[List.getElem?_append_right (by omega),h];rfl
structure iN(tB:Nat)(b:Nat)(Q:ah)(H:Chunk):Prop where
 is:∃vs G,fz [G] vs Q/\H=[(b,blk (cE vs) tB (0,0))]++G
theorem iN.pT{tB b:Nat}{Q:ah}{H:Chunk}(h:iN tB b Q H):∀no,aF no->(Q no).length=256:=by
 obtain⟨vs,G,hs,_⟩:=h.is;exact hs.pT
theorem iN.eq{tB b:Nat}{Q Q':ah}{H:Chunk}(h:iN tB b Q H)(e:vP Q Q'):iN tB b Q' H:=by
 obtain⟨vs,G,hs,hH⟩:=h.is
 refine⟨vs,G,⟨hs.len,fun k hk=> ?_⟩,hH⟩
 obtain⟨v,h1,h2⟩:=hs.at_ k hk
 exact⟨v,h1,by rw[<-e (k:Nat) ⟨by omega,by omega⟩];exact h2⟩
theorem EL{A B:Chunk}{b:Nat}{o:Obj}(h:Has [A] b o):Has [A++B] b o:=Has.mI (by have:=h.mem;simp only[List.flatten_cons,List.flatten_nil,List.append_nil,List.mem_append]at this⊢;exact .inl this)
theorem B4{A B:Chunk}{b:Nat}{o:Obj}(h:Has [B] b o):Has [A++B] b o:=Has.mI (by have:=h.mem;simp only[List.flatten_cons,List.flatten_nil,List.append_nil,List.mem_append]at this⊢;exact .inr this)
theorem fz.grow{G K:Chunk}{vs:List Value}{Q:ah}(h:fz [G] vs Q){k:Nat}(hk:k<96){v:Value}{bs:List UInt8}{e:Nat}(ho:Own bD 1 e v bs K)(hl:bs.length=256):fz [G++K] (vs.set k v) (eW Q (k:Nat) bs):=
 (h.mono fun _ _=>EL).put hk (Slot.J9 ((ho.row (hs:=[])).mono fun _ _=>B4) hl)
theorem iN.one{tB b:Nat}{vs:List Value}{Q:ah}{G:Chunk}(h:fz [G] vs Q):iN tB b Q ([(b,blk (cE vs) tB (0,0))]++G):=⟨vs,G,h,rfl⟩
section
variable[aq]{X:Cx}{k:cU}{R:dN}{hs:List Chunk}{ops:Array Oper}{l:List Oper}{d ty':Nat}{pos:String}{after:Array Edge}{gd:Option (Nat×Bool)}
end
end Go.Pl
end
section
namespace Go.Sx
open Go
def St(I:Chunk->Prop)(E:Int->Chunk->Prop):Bool->Chunk->Prop
 |false,H=>I H
 |true,H=>∃e,E e H
structure LL(x:Int×List UInt8)(bd mF:Bool)(e:Int)(bs:List UInt8):Prop where
 stay:bd=true->mF=true
 len:e=0->bs.length<=4096
 good:mF=false->e=x.1/\(e=0->bs=x.2)/\(e≠0->bs=[])
 fail:bd=false->mF=true->e≠0/\bs=[]
section
variable[aq]
structure cM(P:Program)(u8:Nat)(v:Value)(I:Chunk->Prop)(E:Int->Chunk->Prop)(pg:Int->Int×List UInt8):Prop where
 is:∃t u f rv,v= .iface t u/\(∀w,(method (P.types.size+Made.depth) t u "Page").run P w= .ok (f,rv) w)/\(∀args w,(callFunc f args).run P w= .ok (.enter f args) w)/\
  ∀(bd:Bool) (no:Int) (H:Chunk) (r:List Chunk), -9223372036854775808<=no->no<=9223372036854775807->St I E bd H->ax P f [rv,.int .i64 no] (H::r) fun v' hs'=>∃mF H' K w e bs,hs'=H'::K::r/\v'= .tuple ⟨[w,.int .i64 e]⟩/\Own bD 1 u8 w bs K/\St I E mF H'/\LL (pg no) bd mF e bs
theorem cM.CZ{P:Program}{u8:Nat}{v:Value}{I:Chunk->Prop}{E:Int->Chunk->Prop}{pg:Int->Int×List UInt8}(h:cM P u8 v I E pg):nC P u8 v I (fun _ H=>∃e,E e H) pg:=by
 obtain⟨t,u,f,rv,h1,h2,h3,h4⟩:=h.is
 refine⟨t,u,f,rv,h1,h2,h3,fun no H r a b hI=>(h4 false no H r a b hI).mono ?_⟩
 rintro v' hs' ⟨mF,H',K,w,e,bs,rfl,rfl,ho,hs,hr⟩
 refine⟨H',K,w,e,bs,rfl,rfl,ho,?_⟩
 cases mF with
 |true=>obtain⟨h5,h6⟩:=hr.fail rfl rfl;exact .inr ⟨h5,h6,.inr hs⟩
 |false=>
  obtain⟨h5,h6,h7⟩:=hr.good rfl
  by_cases he:e=0
  . exact .inl ⟨he,by rw[h6 he,<-he,h5],hs⟩
  . exact .inr ⟨he,h7 he,.inl ⟨h5.symm,hs⟩⟩
theorem cM.of{P:Program}{u8:Nat}{v:Value}{I:Chunk->Prop}{pg:Int->Int×List UInt8}(hl:∀no,(pg no).2.length<=4096)(h:nC P u8 v I (fun _ _=>False) pg):cM P u8 v I (fun _ _=>False) pg:=by
 obtain⟨t,u,f,rv,h1,h2,h3,h4⟩:=h.is
 refine⟨t,u,f,rv,h1,h2,h3,fun bd no H r a b hI=> ?_⟩
 cases bd with
 |true=>obtain⟨_,h⟩:=hI;exact h.elim
 |false=>
  refine(h4 no H r a b hI).mono ?_
  rintro v' hs' ⟨H',K,w,e,bs,rfl,rfl,ho,hr⟩
  refine⟨false,H',K,w,e,bs,rfl,rfl,ho,?_⟩
  rcases hr with⟨rfl,h5,h6⟩|⟨h5,rfl,⟨h6,h7⟩|h6⟩
  . exact⟨h6,⟨fun h=>(by cases h),fun _=>(by have:=hl no;rw[h5]at this;exact this),fun _=>⟨by rw[h5],fun _=>by rw[h5],fun h=>absurd rfl h⟩,fun _ h=>(by cases h)⟩⟩
  . exact⟨h7,⟨fun h=>(by cases h),fun _=>(by simp),fun _=>⟨h6.symm,fun h=>absurd h h5,fun _=>rfl⟩,fun _ h=>(by cases h)⟩⟩
  . exact h6.elim
theorem cM.iface{P:Program}{u8:Nat}{v:Value}{I:Chunk->Prop}{E:Int->Chunk->Prop}{pg:Int->Int×List UInt8}(h:cM P u8 v I E pg):∃t u,v= .iface t u:=by obtain⟨t,u,_,_,h,_⟩:=h.is;exact⟨t,u,h⟩
variable{X:Cx}{k:cU}{R:dN}{hs:List Chunk}{ops:Array Oper}{l:List Oper}{d ty':Nat}{pos:String}{after:Array Edge}{gd:Option (Nat×Bool)}
theorem OT.M6{x:Operand}{xs:Array Operand}{tys:Array Nat}{v:Value}{u8:Nat}{I:Chunk->Prop}{E:Int->Chunk->Prop}{pg:Int->Int×List UInt8}{bd:Bool}{no:Int}{H:Chunk}{r:List Chunk}(hP:cM X.P u8 v I E pg)
 (hg:dQ ops R gd=some true)(hx:ev R x=some v)(hxs:mE R xs.toList=some [.int .i64 no])(hdn:Nat.ble (d+1) X.n=true)(hp:aO hs H r)(hI:St I E bd H)(h1: -9223372036854775808<=no)(h2:no<=9223372036854775807)
 (h:∀mF H' K w e bs,Own bD 1 u8 w bs K->St I E mF H'->LL (pg no) bd mF e bs->OT X ops l k ((d,.tuple ⟨[w,.int .i64 e]⟩)::R) (H'::K::r)):OT X ops (⟨some d,.call ⟨.invoke x "Page",xs,tys⟩,ty',pos,after,gd⟩::l) k R hs:=by
 obtain⟨t,u,f,rv,rfl,h3,h4,h5⟩:=hP.is
 refine OT.invoke (fun w _=>h3 w) h4 hg hx hxs hdn ((h5 bd no H r h1 h2 hI).pull hp) ?_
 rintro v' hs' ⟨mF,H',K,w,e,bs,rfl,rfl,ho,hs,hr⟩
 exact h mF H' K w e bs ho hs hr
theorem OT.uJ{T:aB}{s t' e:Nat}{x:Operand}{xs:List UInt8}(hT:T.ok X.P)(hs':ty T s=some (.one .string))(ht:ty T t'=some (.slice e 1))(he:ty T e=some (.one (.int .u8)))
 (hg:dQ ops R gd=some true)(hx:ev R x=some (.string ⟨⟨xs⟩⟩))(hdn:Nat.ble (d+1) X.n=true)
 (h:∀v' H',Own bD 1 e v' xs H'->OT X ops l k ((d,v')::R) (H'::hs)):OT X ops (⟨some d,.convert s t' x,ty',pos,after,gd⟩::l) k R hs:=by
 refine OT.value hg rfl hdn fun a w ha hm=> ?_
 have hr:=run_bytes_of_string (P:=X.P) w s t' e ⟨⟨xs⟩⟩ (hT.ty hs').1 (hT.ty ht).1 (hT.ty he).1
 have hsz:(⟨⟨xs⟩⟩:ByteArray).size=xs.length:=rfl
 rw[hsz]at hr
 have hge:=grownCap_ge w xs.length 0 e
 have em:∀l:List UInt8,l.map (fun b=>Value.int .u8 b.toNat)=l.flatMap bD:=fun l=>by
  induction l with
  |nil=>rfl
  |cons c l ih=>rw[List.map_cons,ih];rfl
 generalize grownCap w xs.length 0 e=cap at hr hge
 have hcs:bytesRow ⟨⟨xs⟩⟩ cap=⟨xs.flatMap bD++List.replicate (cap-xs.length) (.int .u8 0)⟩:=by
  unfold bytesRow
  apply Array.ext'
  rw[Array.toList_append,Array.toList_map,Array.toList_replicate,hsz]
  congr 1
  exact em xs
 rw[hcs]at hr
 refine⟨_,_,_,?_,hm.sV.alloc (blk (xs.flatMap bD++List.replicate (cap-xs.length) (Value.int .u8 0)) e ((xs.flatMap bD++List.replicate (cap-xs.length) (Value.int .u8 0)).length,(xs.flatMap bD++List.replicate (cap-xs.length) (Value.int .u8 0)).length+1)),h (.slice (some ⟨w.heap.size,0,none⟩) xs.length cap) _ ?_⟩
 . simp only[execOp,ha.ev hx]
   rw[Sem.run_bind,hr]
   rfl
 . exact⟨fun _ _=>rfl,.inr ⟨w.heap.size,cap,[],List.replicate (cap-xs.length) (.int .u8 0),_,rfl,by rw[List.nil_append],hge,by simp,.inr (by rw[List.nil_append];exact Nat.le_refl _)⟩⟩
end
end Go.Sx
namespace Go.Pl
open Go Go.Sx
def de(Q:ah)(m:oO):ah:=fun no=>(m no).getD (Q no)
theorem s8(Q:ah):de Q (fun _=>none)=Q:=rfl
theorem wL(Q:ah)(m:oO)(no:Int)(b:List UInt8):de Q (vq m no b)=eW (de Q m) no b:=by
 funext k;unfold de vq eW
 by_cases h:k=no
 . rw[if_pos h,if_pos h];rfl
 . rw[if_neg h,if_neg h]
def gp(m:oO):Prop:=∀no x,m no=some x->aF no/\x.length=256
theorem gp.none:gp fun _=>none:=fun _ _ h=>by cases h
theorem gp.eW{m:oO}(h:gp m){no:Int}{b:List UInt8}(h1:aF no)(h2:b.length=256):gp (vq m no b):=by
 intro k x hk
 unfold vq at hk
 split at hk
 . rename_i e;injection hk with hk;subst hk e;exact⟨h1,h2⟩
 . exact h k x hk
def cC(Q:ah):Prop:=∀no,aF no->(Q no).length=256
theorem cC.lay{Q:ah}(h:cC Q){m:oO}(hm:gp m):cC (de Q m):=by
 intro no hn
 unfold de
 cases hx:m no with
 |none=>exact h no hn
 |some x=>exact(hm no x hx).2
theorem cC.eW{Q:ah}(h:cC Q){no:Int}{b:List UInt8}(h2:b.length=256):cC (eW Q no b):=by
 intro k hk;unfold Go.Pl.eW;split
 . exact h2
 . exact h k hk
def fI(m:oO):Int->Option Value:=fun z=>(m z).map fun x=> .string (IG x)
theorem EM(m:oO)(no:Int)(b:List UInt8):(fun z'=>if z'=no then some (Value.string (IG b))else fI m z')=fI (vq m no b):=by
 funext z;unfold fI vq
 by_cases h:z=no
 . rw[if_pos h,if_pos h];rfl
 . rw[if_neg h,if_neg h]
theorem Gx{m:oO}(h:gp m):∀z,fI m z≠none->0<=z/\z<(96:Nat):=by
 intro z hz
 unfold fI at hz
 cases hm:m z with
 |none=>rw[hm]at hz;exact absurd rfl hz
 |some x=>have:=(h z x hm).1;unfold aF at this;omega
def yA(Qb Qt:ah)(n:Nat):List sC:=((List.range n).map fun k:Nat=>(k:Int)).filterMap fun no=>if Qt no=Qb no then none else some (no,Qt no)
theorem B5(Qb:ah)(m:oO)(n:Nat):(cN (fI m) n).filterMap (fun no=>if de Qb m no=Qb no then none else some (no,de Qb m no))=yA Qb (de Qb m) n:=by
 unfold cN yA
 rw[List.filterMap_filter]
 congr 1
 funext no
 unfold fI
 cases h:m no with
 |none=>simp only[Option.map_none,Option.isSome_none];rw[if_neg (by simp),if_pos (by unfold de;rw[h];rfl)]
 |some x=>simp only[Option.map_some,Option.isSome_some,if_true]
structure iu(sT b:Nat)(v:Value)(J:Chunk->Prop)(m:oO)(H:Chunk):Prop where
 is:∃mb M G,H=([(b,blk [v,.map (some mb)] sT (0,0))]++M)++G/\IsMap (fI m) mb M/\gp m/\J G
theorem iu.may{sT b:Nat}{v:Value}{J:Chunk->Prop}{m:oO}{H:Chunk}(h:iu sT b v J m H):gp m:=by obtain⟨_,_,_,_,_,h,_⟩:=h.is;exact h
theorem iu.mono{sT b:Nat}{v:Value}{J J':Chunk->Prop}{m:oO}{H:Chunk}(h:iu sT b v J m H)(hj:∀G,J G->J' G):iu sT b v J' m H:=by
 obtain⟨mb,M,G,h1,h2,h3,h4⟩:=h.is;exact⟨mb,M,G,h1,h2,h3,hj G h4⟩
def aM(sT b:Nat)(v:Value)(I:Chunk->Prop)(Qb Qt:ah)(H:Chunk):Prop:=∃m,iu sT b v I m H/\Qt=de Qb m
def cD(sT b:Nat)(v:Value)(E:Int->Chunk->Prop)(_:Int)(H:Chunk):Prop:=∃m,iu sT b v (fun G=>∃e,E e G) m H
theorem aM.pT{sT b:Nat}{v:Value}{I:Chunk->Prop}{Qb Qt:ah}{H:Chunk}(h:aM sT b v I Qb Qt H)(hQ:cC Qb):cC Qt:=by
 obtain⟨m,h1,rfl⟩:=h;exact hQ.lay h1.may
theorem EN(m:oO):(cN (fI m) 96).length<=96:=by
 unfold cN
 refine Nat.le_trans (List.length_filter_le _ _) ?_
 rw[List.length_map,List.length_range];exact Nat.le_refl _
theorem Ka{m:oO}(h:gp m){i:Nat}{no:Int}(hi:(cN (fI m) 96)[i]? =some no):∃x,m no=some x/\aF no:=by
 have h1:=List.mem_of_getElem? hi
 unfold cN at h1
 obtain⟨_,h2⟩:=List.mem_filter.1 h1
 unfold fI at h2
 cases hx:m no with
 |none=>rw[hx]at h2;cases h2
 |some x=>exact⟨x,rfl,(h no x hx).1⟩
theorem A5{x:Int×List UInt8}{bd mF:Bool}{e:Int}{bs:List UInt8}(h:LL x bd mF e bs)(hb:mF=false):bd=false:=by
 cases bd with
 |false=>rfl
 |true=>rw[h.stay rfl]at hb;cases hb
theorem Gy{a b:List UInt8}(h:(!decide ((⟨⟨a⟩⟩:ByteArray)=⟨⟨b⟩⟩))=false):b=a:=by
 rw[Bool.not_eq_false',decide_eq_true_eq]at h
 injection h with h;injection h with h;exact h.symm
theorem Gz{a b:List UInt8}(h:(!decide ((⟨⟨a⟩⟩:ByteArray)=⟨⟨b⟩⟩))=true):b≠a:=by
 rw[Bool.not_eq_true',decide_eq_false_iff_not]at h
 intro e;exact h (by rw[e])
theorem B6{Qb:ah}{m:oO}{no:Int}(h:de Qb m no=Qb no):[no].filterMap (fun no=>if de Qb m no=Qb no then none else some (no,de Qb m no))=[]:=by
 simp[h]
theorem EO{Qb:ah}{m:oO}{no:Int}{v:Value}{x:List UInt8}(h:de Qb m no≠Qb no)(hx:de Qb m no=x):[no].filterMap (fun no=>if de Qb m no=Qb no then none else some (no,de Qb m no))=iM [⟨no,v,x⟩]:=by
 show List.filterMap _ [no]=[(no,x)]
 rw[List.filterMap_cons,if_neg h,hx];rfl
theorem wM{tU:Nat}{us:List It}(h:∀u∈us,Own bD 1 tU u.1.v u.1.b u.2){no:Int}{v:Value}{x:List UInt8}{K:Chunk}(ho:Own bD 1 tU v x K):∀u∈us++[((⟨no,v,x⟩:Im),K)],Own bD 1 tU u.1.v u.1.b u.2:=by
 intro u hu
 rcases List.mem_append.1 hu with hu|hu
 . exact h u hu
 . rw[List.mem_singleton]at hu;subst hu;exact ho
theorem wN{us:List It}(h:∀x∈iM (us.map (·.1)),aF x.1/\x.2.length=256){no:Int}{v:Value}{x:List UInt8}{K:Chunk}(h1:aF no)(h2:x.length=256):∀y∈iM ((us++[((⟨no,v,x⟩:Im),K)]).map (·.1)),aF y.1/\y.2.length=256:=by
 intro y hy
 rw[List.map_append,p6]at hy
 rcases List.mem_append.1 hy with hy|hy
 . exact h y hy
 . simp only[iM,List.map_cons,List.map_nil,List.mem_singleton]at hy
   subst hy;exact⟨h1,h2⟩
end Go.Pl
end
section
namespace Go.Sx
open Go
section
variable[aq]{X:Cx}{T:aB}{Cs:List Chunk}{R:dN}
theorem Fl.shl{x y:Operand}{t yt:Nat}{kx ky:IntKind}{a b:Int}(hx:ev R x=some (.int kx a))(hy:ev R y=some (.int ky b))(hb:0<=b):Fl X T Cs R (.binOp .shl t x y yt) (.int kx (kx.wrap (a*2^min b.toNat kx.bits))):=
 .pure (by simp only[CX,hx,hy,bin];rw[if_neg (by omega)])
theorem Fl.index{x ix:Operand}{t e sz b o n c:Nat}{kk:IntKind}{i:Int}(hT:T.ok X.P)(ht:ty T t=some (.slice e sz))(hx:ev R x=some (.slice (some ⟨b,o,none⟩) n c))(AR:ev R ix=some (.int kk i))(h0:0<=i)(h1:i<n):
 Fl X T Cs R (.indexAddr t x ix) (.pointer (some ⟨b,o+i.toNat*sz,none⟩)):=by
 refine .LJ fun op a w hop ha=> ?_
 have hu:=(hT.ty ht).1
 have hsz:=(hT.ty ht).2.1 w
 simp only[execOp,hop,ha.ev hx,ha.ev AR]
 have:(Instr.indexAt t (.slice (some ⟨b,o,none⟩) n c) (.int kk i)).run X.P w= .ok (.pointer (some ⟨b,o+i.toNat*sz,none⟩)) w:=by
  simp[Instr.indexAt,asIntOf,run_underlying hu,h0,h1,hsz,cG]
 simp[this]
end
end Go.Sx
namespace Go.Pl
open Go Go.Sx
theorem EP{Q:ah}(h:cC Q):aX (aI Q 1)=(0,Q 1):=by
 have h1:aF 1:=by unfold aF;omega
 have h2:aI Q 1=(0,Q 1):=by unfold aI;rw[if_pos h1]
 rw[h2];unfold aX;rw[if_neg (by simp),if_neg (by have:=h 1 h1;dsimp only;omega)]
def rootOf(bs:List UInt8):Int:=((bs.getD 4 0).toNat:Int)
def iR(x:Int×List UInt8):Int×Int:=
 let y:=aX x
 if y.1≠0 then(0,y.1)else if rootOf y.2≠0/\¬av (rootOf y.2)then(0,3)else(rootOf y.2,0)
def vt(bs:List UInt8)(n:Nat):List UInt8:=bs.set (n/8) (UInt8.ofNat ((bs.getD (n/8) 0).toNat|||2^(n%8)))
def vu(bs:List UInt8)(n:Nat):List UInt8:=bs.set (n/8) (UInt8.ofNat ((bs.getD (n/8) 0).toNat&&&(255-2^(n%8))))
set_option maxRecDepth 100000 in
theorem ER:∀x:Fin 256,∀k:Fin 8,IntKind.u8.wrap ((BitVec.ofInt IntKind.u8.bits ((x.val:Nat):Int)|||BitVec.ofInt IntKind.u8.bits (IntKind.u8.wrap (1*2^min k.val IntKind.u8.bits))).toNat:Int)=((UInt8.ofNat (x.val|||2^k.val)).toNat:Int):=by decide+kernel
set_option maxRecDepth 100000 in
theorem ES:∀x:Fin 256,∀k:Fin 8,IntKind.u8.wrap ((BitVec.ofInt IntKind.u8.bits ((x.val:Nat):Int)&&& ~~~BitVec.ofInt IntKind.u8.bits (IntKind.u8.wrap (1*2^min k.val IntKind.u8.bits))).toNat:Int)=((UInt8.ofNat (x.val&&&(255-2^k.val))).toNat:Int):=by decide+kernel
set_option maxRecDepth 100000 in
theorem wO:∀x:Fin 256,∀k j:Fin 8,(decide ((UInt8.ofNat (x.val|||2^k.val)).toNat/2^j.val%2=1)=(decide (k=j)||decide (x.val/2^j.val%2=1)))/\(decide ((UInt8.ofNat (x.val&&&(255-2^k.val))).toNat/2^j.val%2=1)=(!decide (k=j)&&decide (x.val/2^j.val%2=1))):=by decide+kernel
theorem wP(bs:List UInt8)(n:Nat):(vt bs n).length=bs.length:=List.length_set
theorem wQ(bs:List UInt8)(n:Nat):(vu bs n).length=bs.length:=List.length_set
theorem kO{bs:List UInt8}{i j:Nat}{c:UInt8}(hi:i<bs.length):(bs.set i c).getD j 0=if i=j then c else bs.getD j 0:=by
 rw[List.getD_eq_getElem?_getD,List.getD_eq_getElem?_getD]
 by_cases h:i=j
 . subst h;rw[if_pos rfl,List.getElem?_set_self hi];rfl
 . rw[if_neg h,List.getElem?_set_ne h]
theorem ET{bs:List UInt8}(hl:bs.length=256){n:Nat}(hn:n<32)(m:Nat):hasB (vt bs n) (m:Nat)=(decide (av (m:Nat))&&decide (n=m)||hasB bs (m:Nat)):=by
 unfold hasB vt
 rw[Int.toNat_natCast,kO (by omega)]
 cases hm:decide (av ((m:Nat):Int))with
 |false=>simp
 |true=>
  rw[Bool.true_and,Bool.true_and,Bool.true_and]
  by_cases h:n/8=m/8
  . rw[if_pos h,h]
    have:=(wO ⟨(bs.getD (m/8) 0).toNat,UInt8.toNat_lt _⟩ ⟨n%8,Nat.mod_lt _ (by decide)⟩ ⟨m%8,Nat.mod_lt _ (by decide)⟩).1
    dsimp only at this
    rw[this]
    congr 1
    refine decide_eq_decide.2 ?_
    rw[Fin.mk.injEq];omega
  . rw[if_neg h,decide_eq_false (fun e:n=m=>h (by rw[e])),Bool.false_or]
theorem EU{bs:List UInt8}(hl:bs.length=256){n:Nat}(hn:n<32)(m:Nat):hasB (vu bs n) (m:Nat)=(!decide (n=m)&&hasB bs (m:Nat)):=by
 unfold hasB vu
 rw[Int.toNat_natCast,kO (by omega)]
 cases hm:decide (av ((m:Nat):Int))with
 |false=>simp
 |true=>
  rw[Bool.true_and,Bool.true_and]
  by_cases h:n/8=m/8
  . rw[if_pos h,h]
    have:=(wO ⟨(bs.getD (m/8) 0).toNat,UInt8.toNat_lt _⟩ ⟨n%8,Nat.mod_lt _ (by decide)⟩ ⟨m%8,Nat.mod_lt _ (by decide)⟩).2
    dsimp only at this
    rw[this]
    congr 1
    congr 1
    refine decide_eq_decide.2 ?_
    rw[Fin.mk.injEq];omega
  . rw[if_neg h,decide_eq_false (fun e:n=m=>h (by rw[e])),Bool.not_false,Bool.true_and]
def kq(bs:List UInt8):Option Nat:=(List.range' 2 30).find? fun n=> !hasB bs (n:Nat)
def za(bs:List UInt8)(n:Nat):Prop:=∀k:Nat,2<=k->k<n->hasB bs (k:Nat)=true
theorem zN{bs:List UInt8}{n:Nat}(h1:2<=n)(h2:n<32)(h:za bs n)(hn:hasB bs (n:Nat)=false):kq bs=some n:=by
 unfold kq
 rw[List.find?_eq_some_iff_append]
 refine⟨by rw[hn];rfl,List.range' 2 (n-2),List.range' (n+1) (31-n),?_,fun a ha=> ?_⟩
 . have e1:List.range' 2 30=List.range' 2 (n-2)++List.range' n (32-n):=by
    have:=List.range'_append (s:=2) (m:=n-2) (n:=32-n) (step:=1)
    rw[Nat.one_mul,show 2+(n-2)=n by omega,show n-2+(32-n)=30 by omega]at this
    exact this.symm
   rw[e1];congr 1
   rw[show 32-n=(31-n)+1 by omega,List.range'_succ]
 . obtain⟨h3,h4⟩:=List.mem_range'_1.1 ha
   rw[h a h3 (by omega)];rfl
theorem zO{bs:List UInt8}(h:za bs 32):kq bs=none:=by
 unfold kq
 rw[List.find?_eq_none]
 intro a ha
 obtain⟨h3,h4⟩:=List.mem_range'_1.1 ha
 rw[h a h3 (by omega)];simp
theorem wR{bs:List UInt8}{n:Nat}(h:kq bs=some n):2<=n/\n<32/\hasB bs (n:Nat)=false:=by
 unfold kq at h
 have h1:=List.mem_of_find?_eq_some h
 have h2:=List.find?_some h
 obtain⟨h3,h4⟩:=List.mem_range'_1.1 h1
 exact⟨h3,by omega,by simpa using h2⟩
theorem q8{n:Nat}(h:n<32):IntKind.i64.wrap ((n:Int).tdiv 8)=((n/8:Nat):Int):=by rw[Int.tdiv_eq_ediv_of_nonneg (by omega),wrap_i64 (by omega) (by omega)];omega
theorem r8(n:Nat):(n:Int).tmod 8=((n%8:Nat):Int):=by rw[Int.tmod_eq_emod_of_nonneg (by omega)];omega
theorem Kb{bs:List UInt8}{n:Nat}{c:UInt8}(h:bs[n/8]? =some c):bs.set (n/8) (UInt8.ofNat (c.toNat|||2^(n%8)))=vt bs n:=by
 unfold vt;rw[List.getD_eq_getElem?_getD,h];rfl
theorem Kc{bs:List UInt8}{n:Nat}{c:UInt8}(h:bs[n/8]? =some c):bs.set (n/8) (UInt8.ofNat (c.toNat&&&(255-2^(n%8))))=vu bs n:=by
 unfold vu;rw[List.getD_eq_getElem?_getD,h];rfl
theorem GA(c:UInt8)(n:Nat):splice (bD c) 0 [.int .u8 (IntKind.u8.wrap ((BitVec.ofInt IntKind.u8.bits (c.toNat:Int)|||BitVec.ofInt IntKind.u8.bits (IntKind.u8.wrap (1*2^min ((n%8:Nat):Int).toNat IntKind.u8.bits))).toNat:Int))]=bD (UInt8.ofNat (c.toNat|||2^(n%8))):=
 congrArg (fun z=>[Value.int .u8 z]) (ER ⟨c.toNat,c.toNat_lt⟩ ⟨n%8,Nat.mod_lt _ (by decide)⟩)
theorem EV(c:UInt8)(n:Nat):splice (bD c) 0 [.int .u8 (IntKind.u8.wrap ((BitVec.ofInt IntKind.u8.bits (c.toNat:Int)&&& ~~~BitVec.ofInt IntKind.u8.bits (IntKind.u8.wrap (1*2^min ((n%8:Nat):Int).toNat IntKind.u8.bits))).toNat:Int))]=bD (UInt8.ofNat (c.toNat&&&(255-2^(n%8)))):=
 congrArg (fun z=>[Value.int .u8 z]) (ES ⟨c.toNat,c.toNat_lt⟩ ⟨n%8,Nat.mod_lt _ (by decide)⟩)
theorem A6{no:Int}(h:0<=no/\no<32):IntKind.u8.wrap no=((UInt8.ofNat no.toNat).toNat:Int):=by
 obtain⟨n,rfl⟩:∃n:Nat,no=n:=⟨no.toNat,by omega⟩
 rw[Int.toNat_natCast,UInt8.toNat_ofNat']
 simp[IntKind.wrap,IntKind.bits,IntKind.signed]
theorem nO{e:Nat}{a:Option Addr}{n c:Nat}{xs:List UInt8}{K:Chunk}(h:Own bD 1 e (.slice a n c) xs K)(hx:0<xs.length):∃b o,a=some ⟨b,o,none⟩:=by
 obtain⟨_,⟨_,h2,_⟩|⟨b,cap,pre,sp,fr,h2,_⟩⟩:=h
 . rw[h2]at hx;cases hx
 . injection h2 with h2;exact⟨b,_,h2⟩
theorem Mm{bs:List UInt8}(h:bs.length=256):bs[4]? =some (bs.getD 4 0):=by
 rw[List.getD_eq_getElem?_getD,List.getElem?_eq_getElem (by omega)];rfl
end Go.Pl
end
section
namespace Go.Pl
open Go Go.Sx
theorem p7:∀l:List UInt8,Op.bytesLess l l=false
 |[]=>rfl
 |a::l=>by
  have h:¬a<a:=by have:=UInt8.lt_irrefl a;exact this
  unfold Op.bytesLess
  rw[p7 l];simp[h]
theorem rX:∀{a b c:List UInt8},Op.bytesLess a b=true->Op.bytesLess b c=true->Op.bytesLess a c=true
 |_,_,[],_,h=>by unfold Op.bytesLess at h;cases h
 |_,[],_::_,h,_=>by unfold Op.bytesLess at h;cases h
 |[],_::_,_::_,_,_=>by unfold Op.bytesLess;rfl
 |x::a,y::b,z::c,h1,h2=>by
  unfold Op.bytesLess at h1 h2⊢
  simp only[Bool.or_eq_true,Bool.and_eq_true,decide_eq_true_eq,beq_iff_eq]at h1 h2⊢
  rcases h1 with h1|⟨rfl,h1⟩
  . rcases h2 with h2|⟨rfl,h2⟩
    . exact .inl (UInt8.lt_trans h1 h2)
    . exact .inl h1
  . rcases h2 with h2|⟨rfl,h2⟩
    . exact .inl h2
    . exact .inr ⟨rfl,rX h1 h2⟩
theorem rY:∀(a b:List UInt8),Op.bytesLess a b=true\/a=b\/Op.bytesLess b a=true
 |[],[]=> .inr (.inl rfl)
 |[],_::_=> .inl (by unfold Op.bytesLess;rfl)
 |_::_,[]=> .inr (.inr (by unfold Op.bytesLess;rfl))
 |x::a,y::b=>by
  have h:=rY a b
  unfold Op.bytesLess
  simp only[Bool.or_eq_true,Bool.and_eq_true,decide_eq_true_eq,beq_iff_eq]
  rcases Nat.lt_trichotomy x.toNat y.toNat with hl|hl|hl
  . exact .inl (.inl hl)
  . have e:x=y:=UInt8.toNat_inj.1 hl
    subst e
    rcases h with h|h|h
    . exact .inl (.inr ⟨rfl,h⟩)
    . exact .inr (.inl (by rw[h]))
    . exact .inr (.inr (.inr ⟨rfl,h⟩))
  . exact .inr (.inr (.inl hl))
def bY(a b:ByteArray):Bool:=Op.bytesLess a.data.toList b.data.toList
theorem aC(a:ByteArray):bY a a=false:=p7 _
theorem bB{a b c:ByteArray}(h1:bY a b=true)(h2:bY b c=true):bY a c=true:=rX h1 h2
theorem ep(a b:ByteArray):bY a b=true\/a=b\/bY b a=true:=by
 rcases rY a.data.toList b.data.toList with h|h|h
 . exact .inl h
 . refine .inr (.inl ?_)
   cases a;cases b;simp at h;simp[h]
 . exact .inr (.inr h)
theorem cL{a b:ByteArray}(h:bY a b=true):bY b a=false:=by
 cases e:bY b a with
 |false=>rfl
 |true=>have:=bB h e;rw[aC]at this;cases this
theorem uw{a b:ByteArray}(h:bY a b=true):a≠b:=by
 intro e;subst e;rw[aC]at h;cases h
theorem zb{a b c:ByteArray}(h1:bY b a=false)(h2:bY b c=true):bY a c=true:=by
 rcases ep a b with h|h|h
 . exact bB h h2
 . subst h;exact h2
 . rw[h]at h1;cases h1
theorem D_{a b c:ByteArray}(h1:bY a b=true)(h2:bY c b=false):bY a c=true:=by
 rcases ep b c with h|h|h
 . exact bB h1 h
 . subst h;exact h1
 . rw[h]at h2;cases h2
theorem A7(a:ByteArray):bY a ⟨#[]⟩=false:=by
 unfold bY
 cases a.data.toList<;>rfl
theorem B7(u:Nat):jZ u=(decide (u/2^52%2^11=2047)&&decide (u%2^52≠0)):=by
 unfold jZ
 rw[Bool.eq_iff_iff,Bool.and_eq_true,decide_eq_true_eq,decide_eq_true_eq,decide_eq_true_eq]
 omega
def ju(u:Nat):Nat:=if jZ u then 0x7ff8000000000000 else u
def bT(u:Nat):Nat:=if jZ u then 0 else if 2^63<=u then 2^64-1-u else u+2^63
def fL(u:Nat):List UInt8:=(List.range 8).map fun i=>UInt8.ofNat (bT u/256^(7-i)%256)
theorem dG(u:Nat):(fL u).length=8:=by unfold fL;simp
theorem yB{u:Nat}(h:u<2^64):(BitVec.ofInt 64 (u:Int)).toNat=u:=by rw[BitVec.toNat_ofInt];omega
theorem M7{u:Nat}(h:u<2^64):u&&&2^63=if 2^63<=u then 2^63 else 0:=by
 apply Nat.eq_of_testBit_eq
 intro i
 rw[Nat.testBit_and,Nat.testBit_two_pow]
 by_cases e:63=i
 . subst e
   rw[Nat.testBit_eq_decide_div_mod_eq]
   split
   . rw[decide_eq_true (by omega),Nat.testBit_two_pow];rfl
   . rw[decide_eq_false (by omega)];simp
 . rw[decide_eq_false e,Bool.and_false]
   split
   . rw[Nat.testBit_two_pow,decide_eq_false e]
   . simp
theorem Ay{u:Nat}(h:u<2^64):IntKind.u64.wrap ((BitVec.ofInt IntKind.u64.bits (u:Int)&&&BitVec.ofInt IntKind.u64.bits 9223372036854775808).toNat:Int)=if 2^63<=u then 9223372036854775808 else 0:=by
 show IntKind.u64.wrap (((BitVec.ofInt 64 (u:Int)&&&BitVec.ofInt 64 9223372036854775808).toNat:Nat):Int)=_
 rw[BitVec.toNat_and,yB h,show(BitVec.ofInt 64 9223372036854775808).toNat=2^63 by decide,M7 h]
 split
 . rfl
 . rfl
theorem P4{u:Nat}(h:u<2^63):IntKind.u64.wrap ((BitVec.ofInt IntKind.u64.bits (u:Int)|||BitVec.ofInt IntKind.u64.bits 9223372036854775808).toNat:Int)=((u+2^63:Nat):Int):=by
 show IntKind.u64.wrap (((BitVec.ofInt 64 (u:Int)|||BitVec.ofInt 64 9223372036854775808).toNat:Nat):Int)=_
 rw[BitVec.toNat_or,yB (by omega),show(BitVec.ofInt 64 9223372036854775808).toNat=2^63 by decide,Nat.or_comm]
 have:=Nat.two_pow_add_eq_or_of_lt h 1
 rw[Nat.mul_one]at this
 rw[<-this,IntKind.wrap_u64]
 omega
theorem GB{u:Nat}(h:u<2^64):IntKind.u64.wrap ((BitVec.ofInt IntKind.u64.bits (u:Int)&&& ~~~BitVec.ofInt IntKind.u64.bits 9223372036854775808).toNat:Int)=((u%2^63:Nat):Int):=by
 show IntKind.u64.wrap (((BitVec.ofInt 64 (u:Int)&&& ~~~BitVec.ofInt 64 9223372036854775808).toNat:Nat):Int)=_
 rw[BitVec.toNat_and,yB h,show(~~~BitVec.ofInt 64 9223372036854775808:BitVec 64).toNat=2^63-1 by decide,Nat.and_two_pow_sub_one_eq_mod,IntKind.wrap_u64]
 omega
def BA(p i:Nat):List UInt8:=(List.range i).map fun i=>UInt8.ofNat (p/256^(7-i)%256)
theorem B8(p i:Nat):BA p (i+1)=BA p i++[UInt8.ofNat (p/256^(7-i)%256)]:=by unfold BA;rw[List.range_succ,List.map_append];rfl
theorem EW(p i:Nat):(BA p i).length=i:=by unfold BA;simp
theorem GC{p i:Nat}(h:i<8):IntKind.u8.wrap ((p:Int).fdiv (2^min (((8*(7-i):Nat):Int)).toNat IntKind.u64.bits))=((UInt8.ofNat (p/256^(7-i)%256)).toNat:Int):=by
 have e:∀j:Fin 8,(2:Int)^min (((8*(7-j.val):Nat):Int)).toNat IntKind.u64.bits=((256^(7-j.val):Nat):Int):=by decide
 have:=e ⟨i,h⟩
 dsimp only at this
 rw[this,Int.fdiv_eq_ediv_of_nonneg _ (Int.natCast_nonneg _),<-Int.natCast_ediv,UInt8.toNat_ofNat']
 generalize p/256^(7-i)=q
 rw[IntKind.wrap_u8];omega
structure Vl where
 kind:Int
 f:Nat
 s:ByteArray
deriving DecidableEq
def bA(v:Vl):List Value:=[.int .i64 v.kind,.float .f64 v.f,.string v.s]
def aW:Vl:=⟨0,0,⟨#[]⟩⟩
def bq(v:Vl):Bool:=
 if v.kind=0 then decide (v.f=0)&&decide (v.s=⟨#[]⟩)
 else if v.kind=1 then decide (v.s=⟨#[]⟩)&&decide (v.f=ju v.f)
 else if v.kind=2 then decide (v.f=0)&&decide (v.s.size<=20)
 else false
def BB(a b:Vl):Bool:=decide (a.kind=b.kind)&&decide (a.s=b.s)&&decide (bT a.f=bT b.f)
def bV(v:Vl):List UInt8:=put v.kind++if v.kind=1 then fL v.f else if v.kind=2 then aQ v.s else[]
structure Cell where
 key:ByteArray
 val:Vl
 aV:Int
 new:Vl
deriving DecidableEq
def aj(c:Cell):List Value:= .string c.key::(bA c.val++ .int .i64 c.aV::bA c.new)
def noCell:Cell:=⟨⟨#[]⟩,aW,0,aW⟩
def bp(s:ByteArray):Bool:=decide (s≠⟨#[]⟩)&&decide (s.size<=16)
def aA(c:Cell):Bool:=
 bp c.key&&bq c.val&&bq c.new&&decide (0<=c.aV)&&decide (c.aV<=1099511627776)&&
  (decide (0<c.aV)||decide (c.new.kind=0)&& !decide (c.val.kind=0))
def au(c:Cell):List UInt8:=aQ c.key++bV c.val++put c.aV++if 0<c.aV then bV c.new else[]
theorem di{n:Int}(h0:0<=n)(h1:n<64):(put n).length=1:=by
 unfold put
 have hz:ym n<128:=by unfold ym;rw[if_neg (by omega)];omega
 rw[fK hz];rfl
theorem iC{s:ByteArray}(h:s.size<64):(aQ s).length=s.size+1:=by
 unfold aQ
 rw[List.length_append,di (by omega) (by omega)]
 have e:s.data.toList.length=s.size:=Array.length_toList
 omega
theorem p8{v:Vl}(h:bq v=true):(bV v).length<=22:=by
 unfold bq at h
 unfold bV
 rw[List.length_append]
 split at h
 . rename_i h0
   rw[h0,di (by omega) (by omega)];simp
 . split at h
   . rename_i h1
     rw[if_pos h1,h1,di (by omega) (by omega),dG];omega
   . split at h
     . rename_i h2 h3
       rw[Bool.and_eq_true,decide_eq_true_eq,decide_eq_true_eq]at h
       rw[if_neg h2,if_pos h3,h3,di (by omega) (by omega),iC (by omega)];omega
     . cases h
end Go.Pl
end
section
namespace Go.Pl
open Go Go.Sx
theorem EX:∀(k u:Nat),u<128^(k+1)->(iL u).length<=k+1:=by
 intro k
 induction k with
 |zero=>intro u h;rw[fK (by omega)];simp
 |succ k ih=>
  intro u h
  by_cases hs:u<128
  . rw[fK hs];simp
  . rw[rm (by omega),List.length_cons]
    have:=ih (u/128) (by rw[Nat.pow_succ]at h;omega)
    omega
theorem GD{n:Int}(h0:0<=n)(h1:n<=1099511627776):(put n).length<=6:=by
 unfold put
 exact EX 5 _ (by unfold ym;rw[if_neg (by omega)];omega)
theorem fX{c:Cell}(h:aA c=true):(au c).length<=67:=by
 unfold aA at h
 simp only[Bool.and_eq_true,decide_eq_true_eq]at h
 obtain⟨⟨⟨⟨⟨h1,h2⟩,h3⟩,h4⟩,h5⟩,_⟩:=h
 unfold bp at h1
 rw[Bool.and_eq_true,decide_eq_true_eq,decide_eq_true_eq]at h1
 unfold au
 have a1:=iC (s:=c.key) (by omega)
 have a2:=p8 h2
 have a3:=GD h4 h5
 have a4:(if 0<c.aV then bV c.new else[]).length<=22:=by
  split
  . exact p8 h3
  . simp
 simp only[List.length_append]
 omega
structure Nd where
 leaf:Bool
 cells:List Cell
 keys:List ByteArray
 kids:List Int
deriving DecidableEq
def BC:Nd:=⟨false,[],[],[]⟩
def rising(l:List ByteArray):Prop:=l.Pairwise fun a b=>bY a b=true
def cQ(n:Nd):Prop:=
 if n.leaf=true then n.keys=[]/\n.kids=[]/\(∀c∈n.cells,aA c=true)/\rising (n.cells.map Cell.key)
 else n.cells=[]/\(∀k∈n.keys,bp k=true)/\rising n.keys/\(∀x∈n.kids,2<=x/\x<32)/\1<=n.kids.length/\n.kids.length<=32/\n.keys.length+1=n.kids.length
noncomputable instance(n:Nd):Decidable (cQ n):=Classical.propDecidable _
def b6(n:Nd):List UInt8:=
 if n.leaf=true then 1::(put n.cells.length++n.cells.flatMap au)
 else 2::(put n.kids.length++n.kids.flatMap put++n.keys.flatMap aQ)
noncomputable def qY(n:Nd):Nat:=if cQ n then(b6 n).length else 0
noncomputable def bS(n:Nd):List UInt8×Int:=if cQ n then if 256<(b6 n).length then([],4)else(b6 n++List.replicate (256-(b6 n).length) 0,0)else([],1)
def Fits(n:Nd):Prop:=cQ n/\(b6 n).length<=256
noncomputable instance(n:Nd):Decidable (Fits n):=Classical.propDecidable _
theorem ff{n:Nd}:(bS n).2=0↔Fits n:=by
 unfold bS Fits
 by_cases h:cQ n
 . rw[if_pos h]
   split
   . constructor
     . intro h;cases h
     . intro h;omega
   . constructor
     . intro _;exact⟨h,by omega⟩
     . intro _;rfl
 . rw[if_neg h]
   constructor
   . intro h;cases h
   . intro h';exact absurd h'.1 h
theorem qo{n:Nd}(h:Fits n):(bS n).1.length=256:=by
 unfold bS
 rw[if_pos h.1,if_neg (by have:=h.2;omega),List.length_append,List.length_replicate]
 have:=h.2;omega
end Go.Pl
end
section
namespace Go.Pl
open Go Go.Sx
def mc(l:List UInt8):Nat:=l.foldl (fun u c=>u*256+c.toNat) 0
def fj(l:List UInt8):Option Nat:=
 let u:=mc l
 let f:=if u=0 then 0x7ff8000000000000 else if u<2^63 then 2^64-1-u else u-2^63
 if bT f=u then some f else none
def cj(l:List UInt8):Vl×Int×Int:=
 match get l with
 |(k,at_,e)=>
  if e≠0 then(aW,0,e)
  else
   match(if k=0 then some (aW,(0:Int),(0:Int))
    else if k=1 then(if(l.length:Int)-at_<8 then some (aW,0,2)else match fj ((l.drop at_.toNat).take 8)with
     |none=>some (aW,0,1)
     |some f=>some (⟨1,f,⟨#[]⟩⟩,8,0))
    else if k=2 then(match bg (l.drop at_.toNat)with|(s,n,e)=>some (⟨2,0,s⟩,n,e))
    else none)with
   |none=>(aW,0,1)
   |some (v,n,e)=>if e≠0 then(aW,0,e)else if bq v=true then(v,at_+n,0)else(aW,0,1)
theorem zP(l:List UInt8)(c:UInt8):mc (l++[c])=mc l*256+c.toNat:=by unfold mc;rw[List.foldl_append];rfl
theorem B9{u:Nat}(h:u<2^64):bT u<2^64:=by
 unfold bT
 split
 . decide
 . split<;>omega
theorem B_(p:Nat)(hp:p<2^64):mc ((List.range 8).map fun i=>UInt8.ofNat (p/256^(7-i)%256))=p:=by
 have e:(List.range 8).map (fun i=>UInt8.ofNat (p/256^(7-i)%256))=[UInt8.ofNat (p/256^7%256),UInt8.ofNat (p/256^6%256),UInt8.ofNat (p/256^5%256),UInt8.ofNat (p/256^4%256),UInt8.ofNat (p/256^3%256),UInt8.ofNat (p/256^2%256),UInt8.ofNat (p/256^1%256),UInt8.ofNat (p/256^0%256)]:=rfl
 have d:∀k,p/256^(k+1)=p/256^k/256:=fun k=>by rw[Nat.pow_succ,Nat.div_div_eq_div_mul]
 have a1:p=p/256^1*256+p%256:=by rw[Nat.pow_one];omega
 have d2:=d 1;have d3:=d 2;have d4:=d 3;have d5:=d 4;have d6:=d 5;have d7:=d 6
 have d0:p/256^0=p:=by simp
 have hb:p/256^7<256:=by rw[Nat.div_lt_iff_lt_mul (by decide)];exact Nat.lt_of_lt_of_le hp (by decide)
 rw[e]
 unfold mc
 simp only[List.foldl_cons,List.foldl_nil,UInt8.toNat_ofNat',Nat.reduceAdd,Nat.zero_add]at d2 d3 d4 d5 d6 d7⊢
 rw[d0]
 generalize p/256^7=q7 at*
 generalize p/256^6=q6 at*
 generalize p/256^5=q5 at*
 generalize p/256^4=q4 at*
 generalize p/256^3=q3 at*
 generalize p/256^2=q2 at*
 generalize p/256^1=q1 at*
 simp only[Nat.zero_mul,Nat.zero_add,Nat.reducePow,Nat.mod_mod]
 clear e d hp
 have m:∀q r:Nat,q=r/256->r=q*256+r%256:=fun q r h=>by omega
 have a2:=m _ _ d2;have a3:=m _ _ d3;have a4:=m _ _ d4;have a5:=m _ _ d5;have a6:=m _ _ d6;have a7:=m _ _ d7
 have a8:q7%256=q7:=Nat.mod_eq_of_lt hb
 rw[a8,<-a7,<-a6,<-a5,<-a4,<-a3,<-a2,<-a1]
theorem zQ{u:Nat}(h:jZ u=true):bT u=0:=by unfold bT;rw[if_pos h]
theorem sA{f:Nat}(h:f<2^64)(hc:f=ju f):fj (fL f)=some f:=by
 unfold fj fL
 rw[B_ _ (B9 h)]
 dsimp only
 have key:(if bT f=0 then 0x7ff8000000000000 else if bT f<2^63 then 2^64-1-bT f else bT f-2^63)=f:=by
  by_cases hn:jZ f=true
  . rw[zQ hn,if_pos rfl]
    unfold ju at hc;rw[if_pos hn]at hc;exact hc.symm
  . have e:bT f=if 2^63<=f then 2^64-1-f else f+2^63:=by unfold bT;rw[if_neg hn]
    have VI:f≠2^64-1:=by
     intro h1;subst h1;exact hn (by decide)
    rw[e]
    split
    . rw[if_neg (by omega),if_pos (by omega)];omega
    . rw[if_neg (by omega),if_neg (by omega)];omega
 rw[key,if_pos rfl]
theorem p9{v:Vl}(h:bq v=true)(hf:v.f<2^64)(rest:List UInt8):cj (bV v++rest)=(v,((bV v).length:Int),0):=by
 obtain⟨k,f,s⟩:=v
 have hm:=h
 unfold bq at h
 dsimp only at h hf
 have hk:k=0\/k=1\/k=2:=by
  split at h
  . omega
  . split at h
    . omega
    . split at h
      . omega
      . cases h
 have hg:∀r,get (put k++r)=(k,1,0):=fun r=>by rw[gy (by omega) (by omega),di (by omega) (by omega)];rfl
 have FT:=di (n:=k) (by omega) (by omega)
 have hd:∀r:List UInt8,(put k++r).drop (1:Int).toNat=r:=fun r=>by rw[show(1:Int).toNat=(put k).length by rw[FT];rfl,List.drop_left]
 unfold cj bV
 dsimp only
 rw[List.append_assoc,hg]
 dsimp only
 rw[if_neg (by simp)]
 rcases hk with rfl|rfl|rfl
 . rw[if_pos rfl,Bool.and_eq_true,decide_eq_true_eq,decide_eq_true_eq]at h
   obtain⟨rfl,rfl⟩:=h
   rw[if_pos rfl]
   dsimp only
   rw[if_neg (by simp),if_pos (show bq aW=true by decide+kernel),if_neg (show¬(0:Int)=1 by decide),if_neg (show¬(0:Int)=2 by decide),List.length_append,FT]
   rfl
 . rw[if_neg (by decide),if_pos rfl,Bool.and_eq_true,decide_eq_true_eq,decide_eq_true_eq]at h
   obtain⟨rfl,hc⟩:=h
   rw[if_neg (by decide),if_pos rfl,if_pos rfl,if_neg (by simp only[List.length_append,FT,dG];omega),hd,
    List.take_left' (dG f),sA hf hc]
   dsimp only
   rw[if_neg (by simp),if_pos hm,List.length_append,FT,dG]
   rfl
 . rw[if_neg (by decide),if_neg (by decide),if_pos rfl,Bool.and_eq_true,decide_eq_true_eq,decide_eq_true_eq]at h
   obtain⟨rfl,hs⟩:=h
   rw[if_neg (by decide),if_neg (by decide),if_pos rfl,if_neg (by decide),if_pos rfl,hd,f_ (by omega)]
   dsimp only
   rw[if_neg (by simp),if_pos hm,List.length_append,FT]
   simp
theorem EY:∀(l:List UInt8) (a:Nat),l.foldl (fun u c=>u*256+c.toNat) a<(a+1)*256^l.length:=by
 intro l
 induction l with
 |nil=>intro a;simp
 |cons c l ih=>
  intro a
  rw[List.foldl_cons,List.length_cons,Nat.pow_succ]
  have hc:=c.toNat_lt
  refine Nat.lt_of_lt_of_le (ih _) ?_
  rw[Nat.mul_comm (256^l.length) 256,<-Nat.mul_assoc]
  exact Nat.mul_le_mul_right _ (by omega)
theorem ze(l:List UInt8):mc l<256^l.length:=by have:=EY l 0;rw[Nat.zero_add,Nat.one_mul]at this;exact this
theorem P5{u:Nat}(h:u<256^7):IntKind.u64.wrap ((u:Int)*2^min (8:Int).toNat IntKind.u64.bits)=((u*256:Nat):Int):=by
 have:(2:Int)^min (8:Int).toNat IntKind.u64.bits=256:=by decide
 rw[this,IntKind.wrap_u64]
 have:u<72057594037927936:=h
 omega
theorem GF{u:Nat}{c:UInt8}(h:u<256^7):IntKind.u64.wrap ((BitVec.ofInt IntKind.u64.bits ((u*256:Nat):Int)|||BitVec.ofInt IntKind.u64.bits (c.toNat:Int)).toNat:Int)=((u*256+c.toNat:Nat):Int):=by
 show IntKind.u64.wrap (((BitVec.ofInt 64 ((u*256:Nat):Int)|||BitVec.ofInt 64 (c.toNat:Int)).toNat:Nat):Int)=_
 have hu:u<72057594037927936:=h
 have hc:=c.toNat_lt
 rw[BitVec.toNat_or,yB (by omega),yB (by omega)]
 have:=Nat.two_pow_add_eq_or_of_lt (i:=8) (show c.toNat<2^8 from hc) u
 rw[show u*256=2^8*u by omega,<-this,IntKind.wrap_u64]
 omega
def sR(l:List UInt8):Nat×Bool:=if l.length≠8 then(0,false)else match fj l with|some f=>(f,true)|none=>(0,false)
def bn(l:List UInt8):Cell×Int×Int:=
 match bg l with
 |(k,at_,e)=>
  if e≠0 then(noCell,0,e)
  else match cj (l.drop at_.toNat)with
   |(v,n,e)=>
    if e≠0 then(noCell,0,e)
    else match get (l.drop (at_+n).toNat)with
     |(t,n2,e)=>
      if e≠0 then(noCell,0,e)
      else
       match(if 0<t then cj (l.drop (at_+n+n2).toNat)else(aW,0,0))with
       |(w,n3,e)=>
        if e≠0 then(noCell,0,e)
        else if aA ⟨k,v,t,w⟩=true then(⟨k,v,t,w⟩,at_+n+n2+n3,0)else(noCell,0,1)
theorem iK{c:Cell}(h:aA c=true)(h1:c.val.f<2^64)(h2:c.new.f<2^64)(rest:List UInt8):bn (au c++rest)=(c,((au c).length:Int),0):=by
 obtain⟨k,v,t,w⟩:=c
 have hm:=h
 unfold aA at h
 simp only[Bool.and_eq_true,decide_eq_true_eq]at h
 obtain⟨⟨⟨⟨⟨a1,a2⟩,a3⟩,a4⟩,a5⟩,a6⟩:=h
 unfold bp at a1
 rw[Bool.and_eq_true,decide_eq_true_eq,decide_eq_true_eq]at a1
 dsimp only at h1 h2 a1 a2 a3 a4 a5 a6
 unfold bn au
 dsimp only
 have e1:aQ k++bV v++put t++(if 0<t then bV w else[])++rest=aQ k++(bV v++(put t++((if 0<t then bV w else[])++rest))):=by simp only[List.append_assoc]
 rw[e1,f_ (by omega)]
 dsimp only
 have d1:∀r:List UInt8,(aQ k++r).drop ((aQ k).length:Int).toNat=r:=fun r=>by rw[Int.toNat_natCast,List.drop_left]
 rw[if_neg (by simp),d1,p9 a2 h1]
 dsimp only
 have d2:∀r:List UInt8,(aQ k++(bV v++r)).drop (((aQ k).length:Int)+((bV v).length:Int)).toNat=r:=fun r=>by
  rw[<-List.append_assoc,show(((aQ k).length:Int)+((bV v).length:Int)).toNat=(aQ k++bV v).length by rw[List.length_append];omega,List.drop_left]
 rw[if_neg (by simp),d2,gy (by omega) (by omega)]
 dsimp only
 have d3:∀r:List UInt8,(aQ k++(bV v++(put t++r))).drop (((aQ k).length:Int)+((bV v).length:Int)+((put t).length:Int)).toNat=r:=fun r=>by
  rw[<-List.append_assoc,<-List.append_assoc,show(((aQ k).length:Int)+((bV v).length:Int)+((put t).length:Int)).toNat=(aQ k++bV v++put t).length by simp only[List.length_append];omega,List.drop_left]
 rw[if_neg (by simp)]
 by_cases ht:0<t
 . rw[if_pos ht,if_pos ht,d3,p9 a3 h2]
   dsimp only
   rw[if_neg (by simp),if_pos hm]
   simp only[List.length_append]
   congr 2
 . have hw:w=aW:=by
    have hk:w.kind=0:=by
     simp only[Bool.or_eq_true,Bool.and_eq_true,decide_eq_true_eq]at a6
     rcases a6 with a6|a6
     . exact absurd a6 ht
     . exact a6.1
    unfold bq at a3
    rw[if_pos hk,Bool.and_eq_true,decide_eq_true_eq,decide_eq_true_eq]at a3
    obtain⟨wk,wf,ws⟩:=w
    dsimp only at hk a3
    rw[hk,a3.1,a3.2];rfl
   subst hw
   rw[if_neg ht,if_neg ht]
   dsimp only
   rw[if_neg (by simp),if_pos hm]
   simp only[List.length_append,List.length_nil]
   congr 2
end Go.Pl
end
section
namespace Go.Pl
open Go Go.Sx
structure VJ where
 name:ByteArray
 id:Int
 inv:Bool
 map:List Int
end Go.Pl
end
section
namespace Go.Pl
open Go Go.Sx
def F_(l:List UInt8):List UInt8:=l++List.replicate (256-l.length) 0
def whole(l:List UInt8):List UInt8:=if 256<l.length then[]else F_ l
end Go.Pl
end
section
namespace Go.Pl
open Go Go.Sx
theorem gG{l:List UInt8}(h:(bg l).2.2=0):0<(bg l).2.1/\(bg l).2.1<=l.length:=by
 have hk:= @pq l
 unfold bg at h⊢
 generalize get l=p at*
 obtain⟨n,k,e⟩:=p
 dsimp only at*
 by_cases h1:e≠0
 . rw[if_pos h1]at h
   exact(h1 h).elim
 . rw[if_neg h1]at h⊢
   have hk:=hk (by omega)
   by_cases h2:n<0\/65536<n
   . rw[if_pos h2]at h;simp at h
   . rw[if_neg h2]at h⊢
     by_cases h3:(l.length:Int)-k<n
     . rw[if_pos h3]at h;simp at h
     . rw[if_neg h3]
       dsimp only
       omega
end Go.Pl
end
section
namespace Go.Pl
open Go Go.Sx
theorem s9{l:List UInt8}{k a e:Int}(h:get l=(k,a,e))(he:e≠0):cj l=(aW,0,e):=by
 unfold cj;rw[h];dsimp only;rw[if_pos he]
theorem rZ{l:List UInt8}{k a:Int}(h:get l=(k,a,0))(h0:k≠0)(h1:k≠1)(h2:k≠2):cj l=(aW,0,1):=by
 unfold cj;rw[h];dsimp only;rw[if_neg (by simp),if_neg h0,if_neg h1,if_neg h2]
theorem r3{l:List UInt8}{a:Int}(h:get l=(0,a,0)):cj l=(aW,a+0,0):=by
 unfold cj;rw[h];dsimp only;rw[if_neg (by simp),if_pos rfl];dsimp only;rw[if_neg (by simp),if_pos (show bq aW=true by decide+kernel)]
theorem p_{l:List UInt8}{a:Int}(h:get l=(1,a,0))(hs:(l.length:Int)-a<8):cj l=(aW,0,2):=by
 unfold cj;rw[h];dsimp only;rw[if_neg (by simp),if_neg (by decide),if_pos rfl,if_pos hs];dsimp only;rw[if_pos (by decide)]
theorem kU{l:List UInt8}{a:Nat}(h:get l=(1,(a:Int),0))(hs:¬(l.length:Int)-a<8):cj l=if(sR ((l.drop a).take 8)).2=true then if bq ⟨1,(sR ((l.drop a).take 8)).1,⟨#[]⟩⟩=true then(⟨1,(sR ((l.drop a).take 8)).1,⟨#[]⟩⟩,(a:Int)+8,0)else(aW,0,1)else(aW,0,1):=by
 have hl:((l.drop a).take 8).length=8:=by rw[List.length_take,List.length_drop];omega
 have e8:¬((l.drop a).take 8).length≠8:=by omega
 unfold cj sR
 rw[h]
 dsimp only
 rw[if_neg (by simp),if_neg (show¬(1:Int)=0 by decide),if_pos rfl,if_neg hs,Int.toNat_natCast,if_neg e8]
 cases fj ((l.drop a).take 8)with
 |none=>simp
 |some f=>simp
theorem mR{l:List UInt8}{a:Nat}{s:ByteArray}{n e:Int}(h:get l=(2,(a:Int),0))(ht:bg (l.drop a)=(s,n,e)):cj l=if e≠0 then(aW,0,e)else if bq ⟨2,0,s⟩=true then(⟨2,0,s⟩,(a:Int)+n,0)else(aW,0,1):=by
 unfold cj
 rw[h]
 dsimp only
 rw[if_neg (by simp),if_neg (by decide),if_neg (by decide),if_pos rfl,Int.toNat_natCast,ht]
end Go.Pl
end
section
namespace Go.Pl
open Go Go.Sx
theorem RB(a x:ByteArray):(!(bY x a||decide (x=a)))=bY a x:=by
 rcases ep a x with h|h|h
 . rw[h,cL h,decide_eq_false (fun e=>uw h e.symm)];rfl
 . subst h;rw[aC,decide_eq_true rfl];rfl
 . rw[h,cL h];rfl
def bu(s from_ to:ByteArray):Bool:= !bY s from_&&(decide (to=⟨#[]⟩)||bY s to)
def gP(a b:ByteArray):ByteArray:=match(List.range (b.size+1)).find? (fun i=>bY a (b.extract 0 i))with|some i=>b.extract 0 i|none=>⟨#[]⟩
theorem Ea{a b:ByteArray}{i:Nat}(hi:i<=b.size)(hb:∀j,j<i->bY a (b.extract 0 j)=false)(h:bY a (b.extract 0 i)=true):gP a b=b.extract 0 i:=by
 unfold gP
 have e:(List.range (b.size+1)).find? (fun i=>bY a (b.extract 0 i))=some i:=by
  rw[List.find?_range_eq_some]
  exact⟨h,List.mem_range.2 (by omega),fun j hj=>by rw[hb j hj];rfl⟩
 rw[e]
theorem EZ{a b:ByteArray}(hb:∀j,j<b.size+1->bY a (b.extract 0 j)=false):gP a b=⟨#[]⟩:=by
 unfold gP
 have e:(List.range (b.size+1)).find? (fun i=>bY a (b.extract 0 i))=none:=by
  rw[List.find?_eq_none]
  intro j hj
  rw[hb j (List.mem_range.1 hj)];simp
 rw[e]
end Go.Pl
end
section
namespace Go.Pl
open Go Go.Sx
theorem qq{l:List UInt8}(h:(cj l).2.2=0):0<(cj l).2.1/\(cj l).2.1<=l.length:=by
 have hk:= @pq l
 obtain⟨k,a1,e,hg⟩:∃k a e,get l=(k,a,e):=⟨_,_,_,rfl⟩
 rw[hg]at hk
 dsimp only at hk
 by_cases he:e=0
 . subst he
   have hk:=hk rfl
   obtain⟨a,rfl⟩:∃a:Nat,a1=a:=⟨a1.toNat,by omega⟩
   by_cases h0:k=0
   . subst h0;rw[r3 hg];dsimp only;omega
   . by_cases h1:k=1
     . subst h1
       by_cases hs:(l.length:Int)-a<8
       . rw[p_ hg hs]at h;cases h
       . rw[kU hg hs]at h⊢
         split
         . split
           . dsimp only;omega
           . rename_i c1 c2;rw[if_pos c1,if_neg c2]at h;cases h
         . rename_i c1;rw[if_neg c1]at h;cases h
     . by_cases h2:k=2
       . subst h2
         obtain⟨s,n,e2,ht⟩:∃s n e,bg (l.drop a)=(s,n,e):=⟨_,_,_,rfl⟩
         have hkn:= @gG (l.drop a)
         rw[ht]at hkn
         rw[mR hg ht]at h⊢
         split
         . rename_i c1;rw[if_pos c1]at h;exact absurd h c1
         . rename_i c1
           have hkn:=hkn (Decidable.byContradiction c1)
           dsimp only at hkn
           rw[List.length_drop]at hkn
           split
           . dsimp only;omega
           . rename_i c2;rw[if_neg c1,if_neg c2]at h;cases h
       . rw[rZ hg h0 h1 h2]at h;cases h
 . rw[s9 hg he]at h;exact absurd h he
section
variable{l:List UInt8}{k:ByteArray}{v w:Vl}{t:Int}
theorem GG{a e:Int}(h:bg l=(k,a,e))(he:e≠0):bn l=(noCell,0,e):=by
 unfold bn;rw[h];dsimp only;rw[if_pos he]
theorem Ke{a:Nat}{n e:Int}(h:bg l=(k,(a:Int),0))(h2:cj (l.drop a)=(v,n,e))(he:e≠0):bn l=(noCell,0,e):=by
 unfold bn;rw[h];dsimp only;rw[if_neg (by simp),Int.toNat_natCast,h2];dsimp only;rw[if_pos he]
theorem Kf{a n:Nat}{n2 e:Int}(h:bg l=(k,(a:Int),0))(h2:cj (l.drop a)=(v,(n:Int),0))(h3:get (l.drop (a+n))=(t,n2,e))(he:e≠0):bn l=(noCell,0,e):=by
 unfold bn;rw[h];dsimp only;rw[if_neg (by simp),Int.toNat_natCast,h2];dsimp only
 rw[if_neg (by simp),show((a:Int)+(n:Int)).toNat=a+n by omega,h3];dsimp only;rw[if_pos he]
theorem Kg{a n n2:Nat}{n3 e:Int}(h:bg l=(k,(a:Int),0))(h2:cj (l.drop a)=(v,(n:Int),0))(h3:get (l.drop (a+n))=(t,(n2:Int),0))(ht:0<t)(h4:cj (l.drop (a+n+n2))=(w,n3,e)):
 bn l=if e≠0 then(noCell,0,e)else if aA ⟨k,v,t,w⟩=true then(⟨k,v,t,w⟩,(a:Int)+n+n2+n3,0)else(noCell,0,1):=by
 unfold bn;rw[h];dsimp only;rw[if_neg (by simp),Int.toNat_natCast,h2];dsimp only
 rw[if_neg (by simp),show((a:Int)+(n:Int)).toNat=a+n by omega,h3];dsimp only
 rw[if_neg (by simp),if_pos ht,show((a:Int)+(n:Int)+(n2:Int)).toNat=a+n+n2 by omega,h4]
theorem Kh{a n n2:Nat}(h:bg l=(k,(a:Int),0))(h2:cj (l.drop a)=(v,(n:Int),0))(h3:get (l.drop (a+n))=(t,(n2:Int),0))(ht:¬0<t):
 bn l=if aA ⟨k,v,t,aW⟩=true then(⟨k,v,t,aW⟩,(a:Int)+n+n2+0,0)else(noCell,0,1):=by
 unfold bn;rw[h];dsimp only;rw[if_neg (by simp),Int.toNat_natCast,h2];dsimp only
 rw[if_neg (by simp),show((a:Int)+(n:Int)).toNat=a+n by omega,h3];dsimp only
 rw[if_neg (by simp),if_neg ht];dsimp only;rw[if_neg (by simp)]
end
end Go.Pl
end
section
namespace Go.Pl
open Go Go.Sx
structure fJ(hs:List Chunk)(cs:List Value)(n:Nd):Prop where
 is:∃vc vk vi,cs=[.bool n.leaf,vc,vk,vi]/\Row aj 8 hs vc n.cells/\Row iq 1 hs vk n.keys/\Row cZ 1 hs vi n.kids
theorem fJ.mono{hs hs':List Chunk}{cs:List Value}{n:Nd}(h:fJ hs cs n)(hh:∀b o,Has hs b o->Has hs' b o):fJ hs' cs n:=by
 obtain⟨vc,vk,vi,h1,h2,h3,h4⟩:=h.is
 exact⟨vc,vk,vi,h1,h2.mono hh,h3.mono hh,h4.mono hh⟩
theorem xH{l:List ByteArray}{k:ByteArray}:rising (l++[k])↔rising l/\∀p,l.getLast? =some p->bY p k=true:=by
 unfold rising
 rw[List.pairwise_append]
 constructor
 . rintro⟨h1,_,h3⟩
   exact⟨h1,fun p hp=>h3 p (List.mem_of_getLast? hp) k (by simp)⟩
 . rintro⟨h1,h2⟩
   refine⟨h1,by simp,fun a ha b hb=> ?_⟩
   rw[List.mem_singleton]at hb;subst hb
   cases hl:l.getLast? with
   |none=>rw[List.getLast?_eq_none_iff]at hl;subst hl;cases ha
   |some p=>
    have hp:=h2 p hl
    obtain⟨l0,rfl⟩:=List.getLast?_eq_some_iff.1 hl
    rcases List.mem_append.1 ha with ha|ha
    . rw[List.pairwise_append]at h1
      exact bB (h1.2.2 a ha p (by simp)) hp
    . rw[List.mem_singleton]at ha;subst ha;exact hp
theorem eP{α:Type}{f:α->ByteArray}{l:List α}{i:Nat}{x:α}(hx:l[i]? =some x):rising ((l.take (i+1)).map f)↔rising ((l.take i).map f)/\(0<i->∀p,l[i-1]? =some p->bY (f p) (f x)=true):=by
 rw[take_succ hx,List.map_append,List.map_singleton,xH]
 have hi:=(List.getElem?_eq_some_iff.1 hx).1
 have e:((l.take i).map f).getLast? =if i=0 then none else(l[i-1]?).map f:=by
  rw[List.getLast?_eq_getElem?,List.getElem?_map,List.length_map,List.length_take,Nat.min_eq_left (by omega),List.getElem?_take]
  by_cases h:i=0
  . subst h;simp
  . rw[if_neg h,if_pos (by omega)]
 rw[e]
 constructor
 . rintro⟨h1,h2⟩
   refine⟨h1,fun h0 p hp=>h2 (f p) ?_⟩
   rw[if_neg (by omega),hp];rfl
 . rintro⟨h1,h2⟩
   refine⟨h1,fun q hq=> ?_⟩
   by_cases h:i=0
   . rw[if_pos h]at hq;cases hq
   . rw[if_neg h]at hq
     obtain⟨p,hp,rfl⟩:=Option.map_eq_some_iff.1 hq
     exact h2 (by omega) p hp
theorem b5{n:Nd}(h:n.leaf=true):cQ n↔n.keys=[]/\n.kids=[]/\(∀c∈n.cells,aA c=true)/\rising (n.cells.map Cell.key):=by unfold cQ;rw[if_pos h]
theorem aS{n:Nd}(h:n.leaf=false):cQ n↔n.cells=[]/\(∀k∈n.keys,bp k=true)/\rising n.keys/\(∀x∈n.kids,2<=x/\x<32)/\1<=n.kids.length/\n.kids.length<=32/\n.keys.length+1=n.kids.length:=by unfold cQ;rw[if_neg (by rw[h];simp)]
theorem rq{n:Nd}(h:cQ n){i:Nat}{x:Cell}(hx:n.cells[i]? =some x):n.leaf=true/\aA x=true/\(0<i->∀p,n.cells[i-1]? =some p->bY p.key x.key=true):=by
 have hl:n.leaf=true:=by
  cases e:n.leaf with
  |true=>rfl
  |false=>have:=((aS e).1 h).1;rw[this]at hx;cases hx
 obtain⟨_,_,h3,h4⟩:=(b5 hl).1 h
 refine⟨hl,h3 x (List.mem_of_getElem? hx),?_⟩
 have h5:rising ((n.cells.take (i+1)).map Cell.key):=by
  rw[List.map_take];exact List.Pairwise.sublist (List.take_sublist _ _) h4
 exact((eP hx).1 h5).2
theorem A8{n:Nd}(h:cQ n)(hl:n.leaf=false){i:Nat}{x:ByteArray}(hx:n.keys[i]? =some x):bp x=true/\(0<i->∀p,n.keys[i-1]? =some p->bY p x=true):=by
 obtain⟨_,h2,h3,_⟩:=(aS hl).1 h
 refine⟨h2 x (List.mem_of_getElem? hx),?_⟩
 have h5:rising ((n.keys.take (i+1)).map id):=by
  rw[List.map_take,List.map_id];exact List.Pairwise.sublist (List.take_sublist _ _) h3
 exact((eP hx).1 h5).2
end Go.Pl
end
section
namespace Go.Sx
open Go
section
variable[aq]{X:Cx}{k:cU}{R:dN}{hs:List Chunk}{ops:Array Oper}{l:List Oper}{T:aB}{d ty':Nat}{pos:String}{after:Array Edge}{gd:Option (Nat×Bool)}{α:Type}{enc:α->List Value}{sz e t:Nat}
theorem OT.cap{x:Operand}{a:Option Addr}{n c:Nat}(hT:T.ok X.P)(ht:ty T t=some (.slice e sz))(hg:dQ ops R gd=some true)(hx:ev R x=some (.slice a n c))(hdn:Nat.ble (d+1) X.n=true)
 (h:OT X ops l k ((d,.int .i64 (c:Nat))::R) hs):OT X ops (⟨some d,.call ⟨.builtin .cap,#[x],#[t]⟩,ty',pos,after,gd⟩::l) k R hs:=by
 refine OT.value hg rfl hdn fun a w ha hm=>⟨_,hs,w,?_,hm,h⟩
 have hu:=(hT.ty ht).1
 simp[execOp,resolve,ha.ev hx,Go.invoke,Go.builtin,Builtin.cap_,run_underlying hu,goInt]
theorem zR{P:Program}(he:Elem P t e sz){v:Value}{xs:List α}(hrow:Row enc sz hs v xs){w:World}(hm:Mem hs w){z0:α}{zv:Value}(yg:∀w,(zeroValue e).run P w= .ok zv w)(eU:enc z0=zv.cells.toList)(Mn:0<sz){t2:Nat}{kk kv:IntKind}(su:P.underlying t2=some (.int kk)){m:Nat}
 (hb:xs.length+m<=4294967296){a:Option Addr}{cap:Nat}(hv:v= .slice a xs.length cap)(hroom:¬xs.length+m<=cap)(ty:Nat):
 ∃v' H' w',(Builtin.append_ #[t,t2] ty #[v,.int kv m]).run P w= .ok v' w'/\Own enc sz e v' (xs++List.replicate m z0) H'/\Mem (H'::hs) w':=by
 obtain⟨ti,IF,vM,j6⟩:=he.info
 obtain⟨z,hz,hzs⟩:=he.zero
 obtain rfl:z=zv:=by have h1:=hz w;rw[yg w]at h1;injection h1 with h1 _;exact h1.symm
 have hall:∀y∈xs++List.replicate m z0,(enc y).length=sz:=by
  intro y hy
  rcases List.mem_append.1 hy with hy|hy
  . exact hrow.1 y hy
  . rw[List.eq_of_mem_replicate hy,eU,<-hzs,Array.length_toList]
 have hm0:m*sz≠0\/m=0:=by
  by_cases h:m=0
  . exact .inr h
  . exact .inl (Nat.mul_ne_zero h (by omega))
 have FO:Builtin.zeroCells z.cells m=⟨(List.replicate m z0).flatMap enc⟩:=zH eU m
 have hc:cap<xs.length+m:=by omega
 have Oe:=rO hc
 have k_:¬(((xs.length+m:Nat):Int)>IntKind.i64.max):=by
  have:IntKind.i64.max=9223372036854775807:=by decide
  rw[this];omega
 have h48:¬(Builtin.nextslicecap (xs.length+m) cap*ti.bytes>2^48):=by
  have h1:Builtin.nextslicecap (xs.length+m) cap*ti.bytes<=8589935104*4096:=Nat.mul_le_mul (by omega) j6
  have:(2:Nat)^48=281474976710656:=by decide
  omega
 have hq:(Question.appendCap (xs.length+m) cap e).forced=false:=rfl
 generalize hnc:(Question.appendCap (xs.length+m) cap e).cut (w.tape w.drawn (.appendCap (xs.length+m) cap e))=nc
 have DH:xs.length+m<=nc:=by rw[<-hnc];simp only[Question.cut];omega
 have oz:Mem hs {w with drawn:=w.drawn+1}:=hm.sV
 have hf:=hrow.first (P:=P) oz
 generalize vU:Builtin.zeroCells z.cells (nc-(xs.length+m))=rest
 have vN:rest.toList.length=(nc-(xs.length+m))*sz:=by
  rw[<-vU];simp[Builtin.zeroCells,hzs]
 have hwrap:IntKind.i64.wrap (m:Int)=(m:Int):=IntWalk.i64_in _ (by omega)
 have hneg:¬((m:Int)<0):=by omega
 have M8:¬((m:Int)*ti.bytes>2^48):=by
  have h1:m*ti.bytes<=4294967296*4096:=Nat.mul_le_mul (by omega) j6
  have:(2:Int)^48=281474976710656:=by decide
  rw[this]
  have h2:((m*ti.bytes:Nat):Int)<=17592186044416:=by omega
  rw[Int.natCast_mul]at h2
  omega
 refine⟨.slice (some ⟨w.heap.size,0,none⟩) (xs.length+m) nc,[(w.heap.size,blk ([]++(xs++List.replicate m z0).flatMap enc++rest.toList) e (0,0))],
  ({w with drawn:=w.drawn+1}:World).alloc (.cells (⟨xs.flatMap enc⟩++⟨(List.replicate m z0).flatMap enc⟩++rest) e),?_,⟨hall,.inr ⟨w.heap.size,nc,[],rest.toList,(0,0),by simp,rfl,by simpa using DH,by rw[vN];simp,.inl (Nat.le_refl _)⟩⟩,?_⟩
 . unfold Builtin.append_
   subst hv
   have kN:∀n (w:World),(askRoom n).run P w= .ok () w:=by intro n w;unfold askRoom;split<;>rfl
   have OL:w.drew={w with drawn:=w.drawn+1}:=rfl
   have jq:=hrow.fD
   have Uo:m≠0:=by omega
   have P6:¬(m*sz=0):=hm0.resolve_right Uo
   simp only[List.getElem?_toArray,List.getElem?_cons_zero,List.getElem?_cons_succ]
   rw[Sem.run_bind,run_underlying he.AQ]
   simp only[Result.andThen_ok]
   rw[Sem.run_bind,he.size]
   simp only[Result.andThen_ok]
   rw[Sem.run_bind,run_underlying su]
   simp only[Result.andThen_ok,Sem.run_bind,Sem.run_pure,if_true,asInt,asIntOf,hwrap,hneg,if_false,IF,M8,Int.toNat_natCast,Bool.not_true,Bool.false_eq_true,hroom,k_,h48,false_and,run_choose_drew,hq,hnc,kN,OL,hf,hz,FO,P6,vU,newRow,run_newObj_alloc]
 . have:=(hm.sV).alloc (.cells (⟨xs.flatMap enc⟩++⟨(List.replicate m z0).flatMap enc⟩++rest) e)
   have e1:(Obj.cells (⟨xs.flatMap enc⟩++⟨(List.replicate m z0).flatMap enc⟩++rest) e:Obj)=blk ([]++(xs++List.replicate m z0).flatMap enc++rest.toList) e (0,0):=by
    unfold blk
    congr 1
    apply Array.ext'
    simp
   rw[e1]at this⊢
   exact this
theorem OT.fO{x y:Operand}{t2:Nat}{kk kv:IntKind}{v zv:Value}{z0:α}{m:Nat}{xs:List α}{a:Option Addr}{cap:Nat}(yg:∀w,(zeroValue e).run X.P w= .ok zv w)(eU:enc z0=zv.cells.toList)(Mn:0<sz)
 (hT:T.ok X.P)(he:Elem X.P t e sz)(su:ty T t2=some (.one (.int kk)))(hg:dQ ops R gd=some true)
 (hx:ev R x=some v)(hy:ev R y=some (.int kv m))(hrow:Row enc sz hs v xs)(hb:xs.length+m<=4294967296)(hv:v= .slice a xs.length cap)(hroom:¬xs.length+m<=cap)(hdn:Nat.ble (d+1) X.n=true)
 (h:∀v' H',Own enc sz e v' (xs++List.replicate m z0) H'->OT X ops l k ((d,v')::R) (H'::hs)):OT X ops (⟨some d,.call ⟨.builtin .append,#[x,y],#[t,t2]⟩,ty',pos,after,gd⟩::l) k R hs:=by
 refine OT.value hg rfl hdn fun a w ha hm=> ?_
 obtain⟨v',H',w',hr,ho,hm'⟩:=zR (kv:=kv) he hrow hm yg eU Mn (hT.ty su).1 hb hv hroom ty'
 exact⟨v',H'::hs,w',fZ (ha.ev hx) (ha.ev hy) t t2 hr,hm',h v' H' ho⟩
theorem OT.uK{x y:Operand}{t2 b o n c i p q:Nat}{dc sc:Nat}{xs:List α}{H:Chunk}{r:List Chunk}(hT:T.ok X.P)(ht:ty T t=some (.slice e sz))(hg:dQ ops R gd=some true)
 (hx:ev R x=some (.slice (some ⟨b,o+(i+1)*sz,none⟩) p dc))(hy:ev R y=some (.slice (some ⟨b,o+i*sz,none⟩) q sc))(hp:aO hs H r)(hown:Own enc sz e (.slice (some ⟨b,o,none⟩) n c) xs H)(hi:i<xs.length)(hn:n+1<=c)
 (vO:p=xs.length-i)(Oi:q=xs.length-i+1)(h1:dy (xs.flatMap enc)=true)(hdn:Nat.ble (d+1) X.n=true)
 (h:∀H',Own enc sz e (.slice (some ⟨b,o,none⟩) (n+1) c) (xs.take (i+1)++xs.drop i) H'->OT X ops l k ((d,.int .i64 (xs.length-i:Nat))::R) (H'::r)):OT X ops (⟨some d,.call ⟨.builtin .copy,#[x,y],#[t,t2]⟩,ty',pos,after,gd⟩::l) k R hs:=by
 refine OT.value hg rfl hdn fun a w ha hm=> ?_
 have hm:=hm.pull hp
 obtain⟨hall,⟨h2,_⟩|⟨b',cap,pre,sp,fr,h2,rfl,hc,hsp,qg⟩⟩:=hown
 . cases h2
 injection h2 with h2 h3 h4
 injection h2 with h2
 injection h2 with h2 h5
 subst h2 h3 h4 h5
 have hu:=(hT.ty ht).1
 have hsz:=(hT.ty ht).2.1
 have yS:(xs.flatMap enc).length=xs.length*sz:=aE hall
 have jr:((xs.drop i).flatMap enc).length=(xs.length-i)*sz:=by rw[aE (fun y hy=>hall y (List.mem_of_mem_drop hy)),List.length_drop]
 have Ml:sz<=sp.length:=Nat.le_trans (Nat.le_mul_of_pos_left sz (by omega:0<c-xs.length)) hsp
 have hil:i*sz+(xs.length-i)*sz=xs.length*sz:=by rw[<-Nat.add_mul];congr 1;omega
 have hrd:((pre++xs.flatMap enc++sp).drop (pre.length+i*sz)).take ((xs.length-i)*sz)=(xs.drop i).flatMap enc:=by
  rw[List.append_assoc,<-List.drop_drop,List.drop_left,List.drop_append_of_le_length (by omega),List.take_append_of_le_length (by rw[List.length_drop];omega),dM hall,List.take_of_length_le (by rw[jr];exact Nat.le_refl _)]
 have P7:=hm.loadCells (P:=X.P) (b:=b) Has.one hrd jr
 have WW:(i+1)*sz=i*sz+sz:=Nat.succ_mul i sz
 obtain⟨w',hr,hm'⟩:=hm.storeCells (P:=X.P) (o:=pre.length+(i+1)*sz) ((xs.drop i).flatMap enc) 0 (by simp only[List.length_append];omega) (wG h1 fun y hy=>by
  rw[List.mem_flatMap]at hy⊢;obtain⟨z,hz,hy⟩:=hy;exact⟨z,List.mem_of_mem_drop hz,hy⟩) qg
 have mJ:splice (pre++xs.flatMap enc++sp) (pre.length+(i+1)*sz+0) ((xs.drop i).flatMap enc)=pre++(xs.take (i+1)++xs.drop i).flatMap enc++sp.drop sz:=by
  unfold splice
  rw[jr,Nat.add_zero,List.append_assoc pre,List.take_length_add_append,show pre.length+(i+1)*sz+(xs.length-i)*sz=pre.length+(xs.length*sz+sz) by omega,List.drop_length_add_append]
  have e1:(xs.flatMap enc++sp).take ((i+1)*sz)=(xs.take (i+1)).flatMap enc:=by
   rw[List.take_append_of_le_length (by rw[yS];exact Nat.mul_le_mul_right _ (by omega)),er hall]
  have e2:(xs.flatMap enc++sp).drop (xs.length*sz+sz)=sp.drop sz:=by
   rw[<-yS,List.drop_length_add_append]
  rw[e1,e2,List.flatMap_append];simp only[List.append_assoc]
 rw[mJ]at hm'
 refine⟨.int .i64 (xs.length-i:Nat),_,w',?_,hm',h _ ⟨?_,.inr ⟨b,c,pre,sp.drop sz,fr,?_,rfl,?_,?_,?_⟩⟩⟩
 . refine s6 (ha.ev hx) (ha.ev hy) (some d) t t2 ?_
   unfold Builtin.copy_
   simp only[List.getElem?_toArray,List.getElem?_cons_zero,List.getElem?_cons_succ]
   rw[Sem.run_bind,run_underlying hu]
   simp only[Result.andThen_ok]
   rw[Sem.run_bind]
   show Result.andThen (Result.ok q w) _=_
   simp only[Result.andThen_ok]
   rw[Sem.run_bind,hsz]
   simp only[Result.andThen_ok]
   have hmin:Nat.min q p=xs.length-i:=by show min q p=_;omega
   rw[Sem.run_bind,hmin]
   show Result.andThen ((loadCells ⟨b,pre.length+i*sz,none⟩ ((xs.length-i)*sz)).run X.P w) _=_
   rw[P7]
   simp only[Result.andThen_ok]
   rw[Sem.run_bind,hr]
   rfl
 . intro y hy
   rcases List.mem_append.1 hy with hy|hy
   . exact hall y (List.mem_of_mem_take hy)
   . exact hall y (List.mem_of_mem_drop hy)
 . congr 1;rw[List.length_append,List.length_take,List.length_drop];omega
 . rw[List.length_append,List.length_take,List.length_drop];omega
 . rw[List.length_append,List.length_take,List.length_drop,List.length_drop,show c-(min (i+1) xs.length+(xs.length-i))=c-xs.length-1 by omega,Nat.sub_mul,Nat.one_mul];omega
 . refine qg.imp id fun hle=> ?_
   simp only[List.length_append,List.flatMap_append,jr,List.length_drop,yS]at hle⊢
   rw[aE (fun y hy=>hall y (List.mem_of_mem_take hy)),List.length_take,Nat.min_eq_left (by omega)]
   omega
theorem OT.overlaps{x:Operand}{f:Nat}{fn:Func}{xs:Array Operand}{tys:Array Nat}{tS tR b1 o b2 n1 c1 n2 c2:Nat}{RC:List Value}{e1:Nat}{ys:List α}{n c:Nat}{H:Chunk}{r:List Chunk}
 (hf:X.P.funcs[f]? =some fn)(hname:(fn.name== "runtime.NumGoroutine")=false)(hb:fn.body.isNone=true)(hn:Extern.findNext fn=none)(he:Extern.find fn=some (Extern.SlicesOverlaps.overlaps #[tS,tS] #[tR]))
 (hT:T.ok X.P)(ht:ty T tS=some (.slice e sz))(hg:dQ ops R gd=some true)(hx:ev R x=some (.func (.func f) #[] #[])){o2:Nat}(hxs:mE R xs.toList=some [.slice (some ⟨b1,0,none⟩) n1 c1,.slice (some ⟨b2,o2,none⟩) n2 c2])(hdn:Nat.ble (d+1) X.n=true)
 (hp:aO hs H r)(hown:Own enc sz e (.slice (some ⟨b2,o,none⟩) n c) ys H)(hys:0<ys.length)(hsz:0<sz)(h1:Has r b1 (blk RC e1 (0,0)))(h:OT X ops l k ((d,.bool false)::R) hs):OT X ops (⟨some d,.call ⟨.value x,xs,tys⟩,ty',pos,after,gd⟩::l) k R hs:=by
 refine OT.value hg rfl hdn fun a w ha hm=>⟨.bool false,hs,w,?_,hm,h⟩
 have hm:=hm.pull hp
 obtain⟨hall,⟨h2,_⟩|⟨b',cap,pre,sp,fr,h2,rfl,hc,hsp,qg⟩⟩:=hown
 . cases h2
 injection h2 with h2 h3 h4
 injection h2 with h2
 injection h2 with h2 h5
 subst h2 h3 h4 h5
 have hne:b1≠b2:=by
  intro e;subst e
  have hn:=hm.nodup
  simp only[List.flatten_cons,List.singleton_append,List.map_cons,List.nodup_cons]at hn
  exact hn.1 (List.mem_map.2 ⟨_,h1.mem,rfl⟩)
 have vM:=hm.heap (b:=b1) (.there h1)
 have j6:=hm.heap (b:=b2) .one
 have yS:(ys.flatMap enc).length=ys.length*sz:=aE hall
 have hk:(pre++ys.flatMap enc++sp).length≠0:=by
  simp only[List.length_append]
  have:0<ys.length*sz:=Nat.mul_pos hys hsz
  omega
 have FU:=Lib.run_overlaps_apart (P:=X.P) w tS tR e (hT.ty ht).1 sz (hT.ty ht).2.1 ⟨b1,0,none⟩ ⟨b2,o2,none⟩ n1 c1 n2 c2 hne e1 e RC.length (pre++ys.flatMap enc++sp).length
  (by simp[World.shape?,vM]) (by simp[World.shape?,j6]) hk (by simp[World.frozen?,vM]) (by simp[World.frozen?,vM])
 have hc:=run_callFunc_extern hf hname hb hn he (⟨[.slice (some ⟨b1,0,none⟩) n1 c1,.slice (some ⟨b2,o2,none⟩) n2 c2]⟩) w
 rw[FU]at hc
 simp only[execOp,resolve,ha.ev hx,Deferred.ofValue]
 have e:xs.map a.eval=⟨[.slice (some ⟨b1,0,none⟩) n1 c1,.slice (some ⟨b2,o2,none⟩) n2 c2]⟩:=by
  have:=ha.mE hxs
  apply Array.ext'
  simpa using this
 rw[e]
 refine Eq.trans ?_ hc
 simp[Go.invoke]
end
end Go.Sx
namespace Go.Pl
open Go Go.Sx
def aJ{α:Type}(xs:List α)(i:Nat)(y:α):List α:=xs.take i++y::xs.drop i
theorem uL{α:Type}{xs:List α}{i m:Nat}{y z:α}(h:i<xs.length)(hm:m=xs.length+1-i):over (over (xs.take i++List.replicate m z) i [y]) (i+1) (xs.drop i)=aJ xs i y:=by
 subst hm
 have hl:(xs.take i).length=i:=by rw[List.length_take];omega
 have e1:over (xs.take i++List.replicate (xs.length+1-i) z) i [y]=(xs.take i++[y])++List.replicate (xs.length-i) z:=by
  unfold over
  rw[List.take_append_of_le_length (by omega),List.take_of_length_le (by omega),List.length_singleton,show i+1=(xs.take i).length+1 by omega,List.drop_length_add_append,List.drop_replicate,show xs.length+1-i-1=xs.length-i by omega]
 rw[e1]
 have hl2:(xs.take i++[y]).length=i+1:=by rw[List.length_append,hl];rfl
 have e2:(xs.take i++[y]++List.replicate (xs.length-i) z).drop (i+1+(xs.drop i).length)=[]:=List.drop_of_length_le (by rw[List.length_append,hl2,List.length_replicate,List.length_drop];omega)
 have e3:(xs.take i++[y]++List.replicate (xs.length-i) z).take (i+1)=xs.take i++[y]:=by rw[List.take_append_of_le_length (by omega),List.take_of_length_le (by omega)]
 unfold over aJ
 rw[e2,e3]
 simp
theorem zf{α:Type}{xs:List α}{i:Nat}{y:α}(h:i<xs.length):over (xs.take (i+1)++xs.drop i) i [y]=aJ xs i y:=by
 unfold over aJ
 have hl:(xs.take (i+1)).length=i+1:=by rw[List.length_take];omega
 rw[List.take_append_of_le_length (by omega),List.take_take,Nat.min_eq_left (by omega),List.length_singleton]
 have e:(xs.take (i+1)++xs.drop i).drop (xs.take (i+1)).length=xs.drop i:=List.drop_left
 rw[hl]at e
 rw[e]
 simp
theorem uM{α:Type}(xs:List α)(y:α):xs++[y]=aJ xs xs.length y:=by unfold aJ;simp
theorem cO{α:Type}{enc:α->List Value}(h:∀x,dy (enc x)=true):∀l:List α,dy (l.flatMap enc)=true:=by
 intro l
 induction l with
 |nil=>rfl
 |cons x l ih=>
  have h1:=h x
  unfold dy at*
  rw[List.flatMap_cons,List.all_append,h1,ih];rfl
theorem fM(l:List Cell):dy (l.flatMap aj)=true:=cO (fun _=>rfl) l
theorem lF(l:List ByteArray):dy (l.flatMap iq)=true:=cO (fun _=>rfl) l
theorem lG(l:List Int):dy (l.flatMap cZ)=true:=cO (fun _=>rfl) l
theorem lH{α:Type}{enc:α->List Value}{sz e:Nat}{v:Value}{xs:List α}{K:Chunk}(h:Own enc sz e v xs K)(hx:0<xs.length):∃b o c,v= .slice (some ⟨b,o,none⟩) xs.length c:=by
 obtain⟨_,⟨_,h2,_⟩|⟨b,cap,pre,sp,fr,h2,_⟩⟩:=h
 . rw[h2]at hx;cases hx
 . exact⟨b,_,cap,h2⟩
theorem zg{α:Type}{enc:α->List Value}{sz e:Nat}{a:Option Addr}{n c:Nat}{xs:List α}{K:Chunk}(h:Own enc sz e (.slice a n c) xs K)(hx:0<xs.length):∃b o,a=some ⟨b,o,none⟩:=by
 obtain⟨b,o,c',e⟩:=lH h hx
 injection e with e;exact⟨b,o,e⟩
end Go.Pl
end
section
namespace Go.Pl
open Go Go.Sx
theorem ux{v:Vl}(h:bq v=true):(0<=v.kind/\v.kind<=2)/\v.s.size<=20:=by
 unfold bq at h
 split at h
 . rw[Bool.and_eq_true,decide_eq_true_eq,decide_eq_true_eq]at h
   rw[h.2];exact⟨by omega,by decide⟩
 . split at h
   . rw[Bool.and_eq_true,decide_eq_true_eq,decide_eq_true_eq]at h
     rw[h.1];exact⟨by omega,by decide⟩
   . split at h
     . rw[Bool.and_eq_true,decide_eq_true_eq,decide_eq_true_eq]at h
       exact⟨by omega,h.2⟩
     . cases h
structure Ki(c:Cell):Prop where
 k1:0<=c.val.kind/\c.val.kind<=2
 k2:0<=c.new.kind/\c.new.kind<=2
 s1:c.val.s.size<=20
 s2:c.new.s.size<=20
 key:c.key.size<=16
 aV:0<=c.aV/\c.aV<=1099511627776
theorem nI{c:Cell}(h:aA c=true):Ki c:=by
 unfold aA at h
 simp only[Bool.and_eq_true,decide_eq_true_eq]at h
 obtain⟨⟨⟨⟨⟨h1,h2⟩,h3⟩,h4⟩,h5⟩,_⟩:=h
 unfold bp at h1
 rw[Bool.and_eq_true,decide_eq_true_eq,decide_eq_true_eq]at h1
 exact⟨(ux h2).1,(ux h3).1,(ux h2).2,(ux h3).2,h1.2,h4,h5⟩
theorem nP{α:Type}{f:α->List UInt8}{b:Nat}:∀{l:List α},(∀x∈l,(f x).length<=b)->(l.flatMap f).length<=b*l.length:=by
 intro l
 induction l with
 |nil=>intro _;simp
 |cons x l ih=>
  intro h
  rw[List.flatMap_cons,List.length_append,List.length_cons]
  have h1:=h x (by simp)
  have h2:=ih fun y hy=>h y (by simp[hy])
  rw[Nat.mul_succ];omega
theorem lI{α:Type}{f:α->List UInt8}{l:List α}{i:Nat}{x:α}(h:l[i]? =some x):(l.take (i+1)).flatMap f=(l.take i).flatMap f++f x:=by
 rw[take_succ h,List.flatMap_append,List.flatMap_singleton]
end Go.Pl
end
section
namespace Go.Pl
open Go Go.Sx
structure kC(n:Nd):Prop where
 fits:Fits n
 fl:∀c∈n.cells,c.val.f<2^64/\c.new.f<2^64
structure Rd where
 l:List UInt8
 bad:Bool
def Rd.dI(r:Rd)(n e:Int):Rd:=if r.bad=true\/e≠0 then⟨r.l,true⟩else⟨r.l.drop n.toNat,false⟩
theorem Rd.wS(r:Rd)(n e:Int):(r.dI n e).l.length<=r.l.length:=by
 unfold Rd.dI;split
 . exact Nat.le_refl _
 . dsimp only;rw[List.length_drop];omega
theorem Rd.uN{r:Rd}{n e:Int}(h:(r.dI n e).bad=false):r.bad=false/\e=0/\(r.dI n e).l=r.l.drop n.toNat:=by
 unfold Rd.dI at h⊢
 by_cases hc:r.bad=true\/e≠0
 . rw[if_pos hc]at h;cases h
 . rw[if_neg hc]
   refine⟨by cases hb:r.bad<;>simp_all,by omega,rfl⟩
theorem Rd.jg{r:Rd}{n e:Int}(h1:r.bad=false)(h2:e=0):r.dI n e=⟨r.l.drop n.toNat,false⟩:=by
 unfold Rd.dI;rw[if_neg (by simp[h1,h2])]
theorem A9{l:List UInt8}:(cj l).1.f<2^64:=by
 unfold cj
 split
 rename_i k at_ e _
 split
 . exact(by decide:(0:Nat)<2^64)
 . split
   . exact(by decide:(0:Nat)<2^64)
   . rename_i v n e h
     split
     . exact(by decide:(0:Nat)<2^64)
     . split
       . dsimp only
         split at h
         . injection h with h;injection h with h;rw[<-h];exact(by decide:(0:Nat)<2^64)
         . split at h
           . split at h
             . injection h with h;injection h with h;rw[<-h];exact(by decide:(0:Nat)<2^64)
             . split at h
               . injection h with h;injection h with h;rw[<-h];exact(by decide:(0:Nat)<2^64)
               . rename_i f hf
                 injection h with h;injection h with h;rw[<-h]
                 dsimp only
                 unfold fj at hf
                 have hb:=ze ((l.drop at_.toNat).take 8)
                 have h8:((l.drop at_.toNat).take 8).length<=8:=by rw[List.length_take];omega
                 have hp:256^((l.drop at_.toNat).take 8).length<=256^8:=Nat.pow_le_pow_right (by decide) h8
                 have e8:(256:Nat)^8=2^64:=by decide
                 dsimp only at hf
                 generalize mc ((l.drop at_.toNat).take 8)=u at*
                 by_cases hq:bT (if u=0 then 0x7ff8000000000000 else if u<2^63 then 2^64-1-u else u-2^63)=u
                 . rw[if_pos hq]at hf
                   injection hf with hf
                   rw[<-hf]
                   by_cases g1:u=0
                   . rw[if_pos g1];decide
                   . rw[if_neg g1]
                     by_cases g2:u<2^63
                     . rw[if_pos g2];omega
                     . rw[if_neg g2];omega
                 . rw[if_neg hq]at hf;cases hf
           . split at h
             . split at h
               injection h with h;injection h with h;rw[<-h];exact(by decide:(0:Nat)<2^64)
             . cases h
       . exact(by decide:(0:Nat)<2^64)
theorem Ca{l:List UInt8}:(bn l).1.val.f<2^64/\(bn l).1.new.f<2^64:=by
 have hz:noCell.val.f<2^64/\noCell.new.f<2^64:=by decide
 unfold bn
 split
 rename_i k a e _
 split
 . exact hz
 . have h1:= @A9 (l.drop a.toNat)
   generalize cj (l.drop a.toNat)=p at*
   obtain⟨v,n,e⟩:=p
   dsimp only at h1⊢
   split
   . exact hz
   . generalize get (l.drop (a+n).toNat)=p at*
     obtain⟨t,n2,e⟩:=p
     dsimp only
     split
     . exact hz
     . have h2:(if 0<t then cj (l.drop (a+n+n2).toNat)else(aW,0,0)).1.f<2^64:=by
        split
        . exact A9
        . exact(by decide:(0:Nat)<2^64)
       generalize(if 0<t then cj (l.drop (a+n+n2).toNat)else(aW,0,0))=p at*
       obtain⟨w,n3,e⟩:=p
       dsimp only at h2⊢
       split
       . exact hz
       . split
         . exact⟨h1,h2⟩
         . exact hz
theorem E0(u:Nat):0<(iL u).length:=by
 unfold iL;split<;>simp
theorem GH(n:Int):0<(put n).length:=E0 _
def bz(bs:List UInt8)(n:Nd):Prop:=kC n/\bs=(bS n).1
theorem Eb{n:Nd}(h:kC n):(bS n).1=b6 n++List.replicate (256-(b6 n).length) 0:=by
 unfold bS;rw[if_pos h.fits.1,if_neg (by have:=h.fits.2;omega)]
theorem bz.len{bs:List UInt8}{n:Nd}(h:bz bs n):bs.length=256:=by rw[h.2];exact qo h.1.fits
theorem lJ{bs:List UInt8}{n:Nd}(h:bz bs n)(hl:n.leaf=true):∃pad,bs=1::(put n.cells.length++(n.cells.flatMap au++pad)):=by
 refine⟨List.replicate (256-(b6 n).length) 0,?_⟩
 rw[h.2,Eb h.1]
 unfold b6
 rw[if_pos hl]
 simp only[List.cons_append,List.append_assoc]
theorem lK{bs:List UInt8}{n:Nd}(h:bz bs n)(hl:n.leaf=false):∃pad,bs=2::(put n.kids.length++(n.kids.flatMap put++(n.keys.flatMap aQ++pad))):=by
 refine⟨List.replicate (256-(b6 n).length) 0,?_⟩
 rw[h.2,Eb h.1]
 unfold b6
 rw[if_neg (by rw[hl];simp)]
 simp only[List.cons_append,List.append_assoc]
theorem mS{bs:List UInt8}{n:Nd}(h:bz bs n):n.leaf=decide (bs[0]? =some 1):=by
 cases hl:n.leaf with
 |true=>obtain⟨pad,e⟩:=lJ h hl;rw[e];simp
 |false=>obtain⟨pad,e⟩:=lK h hl;rw[e];simp
theorem s_{l:List UInt8}(h:(bn l).2.2=0):0<(bn l).2.1/\(bn l).2.1<=l.length:=by
 unfold bn at h⊢
 have qC:= @gG l
 generalize bg l=p at*
 obtain⟨k,a,e⟩:=p
 dsimp only at*
 by_cases h1:e≠0
 . rw[if_pos h1]at h;exact absurd h h1
 rw[if_neg h1]at h⊢
 have qC:=qC (by omega)
 have hk2:= @qq (l.drop a.toNat)
 generalize cj (l.drop a.toNat)=p at*
 obtain⟨v,n,e2⟩:=p
 dsimp only at*
 by_cases h2:e2≠0
 . rw[if_pos h2]at h;exact absurd h h2
 rw[if_neg h2]at h⊢
 have hk2:=hk2 (by omega)
 rw[List.length_drop]at hk2
 have C0:= @pq (l.drop (a+n).toNat)
 generalize get (l.drop (a+n).toNat)=p at*
 obtain⟨t,n2,e3⟩:=p
 dsimp only at*
 by_cases h3:e3≠0
 . rw[if_pos h3]at h;exact absurd h h3
 rw[if_neg h3]at h⊢
 have C0:=C0 (by omega)
 rw[List.length_drop]at C0
 have BN:∀p,(if 0<t then cj (l.drop (a+n+n2).toNat)else(aW,0,0))=p->p.2.2=0->0<=p.2.1/\a+n+n2+p.2.1<=l.length:=by
  intro p hp he
  by_cases ht:0<t
  . rw[if_pos ht]at hp
    have:= @qq (l.drop (a+n+n2).toNat)
    rw[hp,List.length_drop]at this
    have:=this he
    omega
  . rw[if_neg ht]at hp;rw[<-hp];dsimp only;omega
 generalize(if 0<t then cj (l.drop (a+n+n2).toNat)else(aW,0,0))=p at*
 obtain⟨w,n3,e4⟩:=p
 have BN:=BN _ rfl
 dsimp only at*
 by_cases h4:e4≠0
 . rw[if_pos h4]at h;exact absurd h h4
 rw[if_neg h4]at h⊢
 have BN:=BN (by omega)
 split at h
 . rename_i hm;rw[if_pos hm];dsimp only;omega
 . cases h
structure pz(bs:List UInt8)(k:Int)(r:Rd)(cells:List Cell):Prop where
 j7:cells.length<=256
 room:r.bad=false->cells.length+r.l.length<=255
 fl:∀c∈cells,c.val.f<2^64/\c.new.f<2^64
 is:∀n0,bz bs n0->n0.leaf=true->r.bad=false/\∃(j:Nat) (pad:List UInt8),j<=n0.cells.length/\k=(n0.cells.length:Int)-j/\cells=n0.cells.take j/\r.l=(n0.cells.drop j).flatMap au++pad
theorem Fits.j7{n:Nd}(h:Fits n):n.cells.length<=256/\n.kids.length<=256:=by
 have h2:=h.2
 unfold b6 at h2
 split at h2
 . rename_i hl
   obtain⟨_,hk,_⟩:=(b5 hl).1 h.1
   refine⟨?_,by rw[hk];simp⟩
   have:∀l:List Cell,l.length<=(l.flatMap au).length:=by
    intro l
    induction l with
    |nil=>simp
    |cons c l ih=>
     rw[List.flatMap_cons,List.length_append,List.length_cons]
     have:0<(au c).length:=by
      unfold au;simp only[List.length_append];have:=ei c.key;have:=GH (c.key.size:Int);omega
     omega
   have:=this n.cells
   simp only[List.length_cons,List.length_append]at h2
   omega
 . rename_i hl
   obtain⟨hc,_,_,_,_,h6,_⟩:=(aS (by simpa using hl)).1 h.1
   exact⟨by rw[hc];simp,by omega⟩
theorem r4{bs:List UInt8}{c:UInt8}{n:Nat}{rest:List UInt8}(h:bs=c::(put n++rest))(hn:n<=256):
 (get (bs.drop 1)).1=n/\(Rd.mk (bs.drop 1) false).dI (get (bs.drop 1)).2.1 (get (bs.drop 1)).2.2=⟨rest,false⟩:=by
 rw[h,List.drop_succ_cons,List.drop_zero,gy (by omega) (by omega)]
 refine⟨rfl,?_⟩
 rw[Rd.jg rfl rfl]
 dsimp only
 rw[Int.toNat_natCast,List.drop_left]
theorem pz.start{bs:List UInt8}(hl:bs.length=256):pz bs (get (bs.drop 1)).1 ((Rd.mk (bs.drop 1) false).dI (get (bs.drop 1)).2.1 (get (bs.drop 1)).2.2) []:=by
 refine⟨by simp,fun _=> ?_,by simp,fun n0 h0 hlf=> ?_⟩
 . have:=(Rd.mk (bs.drop 1) false).wS (get (bs.drop 1)).2.1 (get (bs.drop 1)).2.2
   dsimp only at this
   rw[List.length_drop]at this
   simp only[List.length_nil];omega
 . obtain⟨pad,e⟩:=lJ h0 hlf
   obtain⟨h1,h2⟩:=r4 e h0.1.fits.j7.1
   rw[h1,h2]
   exact⟨rfl,0,pad,by omega,by omega,by simp,by simp⟩
theorem pz.step{bs:List UInt8}{k:Int}{r:Rd}{cells:List Cell}(h:pz bs k r cells)(hb:r.bad=false)(hk:0<k):
 pz bs (k-1) (r.dI (bn r.l).2.1 (bn r.l).2.2) (cells++[(bn r.l).1])/\((r.dI (bn r.l).2.1 (bn r.l).2.2).bad=false->(r.dI (bn r.l).2.1 (bn r.l).2.2).l.length<r.l.length):=by
 have hlt:(r.dI (bn r.l).2.1 (bn r.l).2.2).bad=false->(r.dI (bn r.l).2.1 (bn r.l).2.2).l.length<r.l.length:=fun hg=>by
  obtain⟨_,he,hd⟩:=Rd.uN hg
  have:=s_ he
  rw[hd,List.length_drop];omega
 refine⟨⟨?_,fun hg=> ?_,?_,fun n0 h0 hlf=> ?_⟩,hlt⟩
 . have:=h.room hb;rw[List.length_append];simp only[List.length_singleton];omega
 . have:=h.room hb;have:=hlt hg;rw[List.length_append];simp only[List.length_singleton];omega
 . intro c hc
   rw[List.mem_append,List.mem_singleton]at hc
   rcases hc with hc|rfl
   . exact h.fl c hc
   . exact Ca
 . obtain⟨_,j,pad,hj,hkj,hcs,hr⟩:=h.is n0 h0 hlf
   obtain⟨c,hc⟩:∃c,n0.cells[j]? =some c:=⟨_,List.getElem?_eq_getElem (by omega)⟩
   have C1:n0.cells.drop j=c::n0.cells.drop (j+1):=by
    rw[List.drop_eq_getElem_cons (by omega)];congr 1
    exact(List.getElem?_eq_some_iff.1 hc).2
   rw[C1,List.flatMap_cons,List.append_assoc]at hr
   have hm:aA c=true:=((b5 hlf).1 h0.1.fits.1).2.2.1 c (List.mem_of_getElem? hc)
   have hf:=h0.1.fl c (List.mem_of_getElem? hc)
   have hg:=iK hm hf.1 hf.2 ((n0.cells.drop (j+1)).flatMap au++pad)
   rw[<-hr]at hg
   rw[hg,Rd.jg hb rfl]
   refine⟨rfl,j+1,pad,by omega,by omega,?_,?_⟩
   . rw[hcs,List.take_add_one,hc];rfl
   . dsimp only;rw[hr,Int.toNat_natCast,List.drop_left]
structure pE(bs:List UInt8)(k:Int)(i:Nat)(r:Rd)(kids:List Int):Prop where
 II:i=kids.length
 j7:kids.length<=256
 room:r.bad=false->kids.length+r.l.length<=255
 is:∀n0,bz bs n0->n0.leaf=false->r.bad=false/\k=n0.kids.length/\i<=n0.kids.length/\kids=n0.kids.take i/\∃pad:List UInt8,r.l=(n0.kids.drop i).flatMap put++(n0.keys.flatMap aQ++pad)
theorem pE.start{bs:List UInt8}(hl:bs.length=256):pE bs (get (bs.drop 1)).1 0 ((Rd.mk (bs.drop 1) false).dI (get (bs.drop 1)).2.1 (get (bs.drop 1)).2.2) []:=by
 refine⟨rfl,by simp,fun _=> ?_,fun n0 h0 hlf=> ?_⟩
 . have:=(Rd.mk (bs.drop 1) false).wS (get (bs.drop 1)).2.1 (get (bs.drop 1)).2.2
   dsimp only at this
   rw[List.length_drop]at this
   simp only[List.length_nil];omega
 . obtain⟨pad,e⟩:=lK h0 hlf
   obtain⟨h1,h2⟩:=r4 e h0.1.fits.j7.2
   rw[h1,h2]
   exact⟨rfl,rfl,by omega,by simp,pad,by simp⟩
theorem pE.step{bs:List UInt8}{k:Int}{i:Nat}{r:Rd}{kids:List Int}(h:pE bs k i r kids)(hb:r.bad=false)(hk:(i:Int)<k):
 pE bs k (i+1) (r.dI (get r.l).2.1 (get r.l).2.2) (kids++[(get r.l).1])/\((r.dI (get r.l).2.1 (get r.l).2.2).bad=false->(r.dI (get r.l).2.1 (get r.l).2.2).l.length<r.l.length):=by
 have hlt:(r.dI (get r.l).2.1 (get r.l).2.2).bad=false->(r.dI (get r.l).2.1 (get r.l).2.2).l.length<r.l.length:=fun hg=>by
  obtain⟨_,he,hd⟩:=Rd.uN hg
  have:=pq he
  rw[hd,List.length_drop];omega
 refine⟨⟨by rw[List.length_append,<-h.II];rfl,?_,fun hg=> ?_,fun n0 h0 hlf=> ?_⟩,hlt⟩
 . have:=h.room hb;rw[List.length_append];simp only[List.length_singleton];omega
 . have:=h.room hb;have:=hlt hg;rw[List.length_append];simp only[List.length_singleton];omega
 . obtain⟨_,hkk,hj,hcs,pad,hr⟩:=h.is n0 h0 hlf
   obtain⟨c,hc⟩:∃c,n0.kids[i]? =some c:=⟨_,List.getElem?_eq_getElem (by omega)⟩
   have C1:n0.kids.drop i=c::n0.kids.drop (i+1):=by
    rw[List.drop_eq_getElem_cons (by omega)];congr 1
    exact(List.getElem?_eq_some_iff.1 hc).2
   rw[C1,List.flatMap_cons,List.append_assoc]at hr
   have hm:=((aS hlf).1 h0.1.fits.1).2.2.2.1 c (List.mem_of_getElem? hc)
   have hg:=gy (n:=c) (by omega) (by omega) ((n0.kids.drop (i+1)).flatMap put++(n0.keys.flatMap aQ++pad))
   rw[<-hr]at hg
   rw[hg,Rd.jg hb rfl]
   refine⟨rfl,hkk,by omega,?_,pad,?_⟩
   . rw[hcs,List.take_add_one,hc];rfl
   . dsimp only;rw[hr,Int.toNat_natCast,List.drop_left]
structure me(bs:List UInt8)(k:Int)(i:Nat)(r:Rd)(kids:List Int)(keys:List ByteArray):Prop where
 II:i=keys.length+1
 j7:keys.length<=256
 room:r.bad=false->keys.length+r.l.length<=255
 is:∀n0,bz bs n0->n0.leaf=false->r.bad=false/\k=n0.kids.length/\kids=n0.kids/\keys.length<=n0.keys.length/\keys=n0.keys.take keys.length/\∃pad:List UInt8,r.l=(n0.keys.drop keys.length).flatMap aQ++pad
theorem me.start{bs:List UInt8}{k:Int}{i:Nat}{r:Rd}{kids:List Int}(h:pE bs k i r kids)(he:¬((i:Int)<k)\/r.bad=true):me bs k 1 r kids []:=by
 refine⟨rfl,by simp,fun hb=>by have:=h.room hb;simp only[List.length_nil];omega,fun n0 h0 hlf=> ?_⟩
 obtain⟨hb,hk,hi,hks,pad,hr⟩:=h.is n0 h0 hlf
 have hil:i=n0.kids.length:=he.elim (fun he=>by omega) (fun he=>by rw[hb]at he;cases he)
 subst hil
 rw[List.take_length]at hks
 exact⟨hb,hk,hks,by simp,by simp,pad,by rw[hr];simp⟩
theorem me.step{bs:List UInt8}{k:Int}{i:Nat}{r:Rd}{kids:List Int}{keys:List ByteArray}(h:me bs k i r kids keys)(hb:r.bad=false)(hk:(i:Int)<k):
 me bs k (i+1) (r.dI (bg r.l).2.1 (bg r.l).2.2) kids (keys++[(bg r.l).1])/\((r.dI (bg r.l).2.1 (bg r.l).2.2).bad=false->(r.dI (bg r.l).2.1 (bg r.l).2.2).l.length<r.l.length):=by
 have hlt:(r.dI (bg r.l).2.1 (bg r.l).2.2).bad=false->(r.dI (bg r.l).2.1 (bg r.l).2.2).l.length<r.l.length:=fun hg=>by
  obtain⟨_,he,hd⟩:=Rd.uN hg
  have:=gG he
  rw[hd,List.length_drop];omega
 refine⟨⟨by rw[List.length_append,h.II];rfl,?_,fun hg=> ?_,fun n0 h0 hlf=> ?_⟩,hlt⟩
 . have:=h.room hb;rw[List.length_append];simp only[List.length_singleton];omega
 . have:=h.room hb;have:=hlt hg;rw[List.length_append];simp only[List.length_singleton];omega
 . obtain⟨_,hkk,vv,hj,hcs,pad,hr⟩:=h.is n0 h0 hlf
   obtain⟨_,hmk,_,_,_,_,hlen⟩:=(aS hlf).1 h0.1.fits.1
   have hi:=h.II
   obtain⟨c,hc⟩:∃c,n0.keys[keys.length]? =some c:=⟨_,List.getElem?_eq_getElem (by omega)⟩
   have C1:n0.keys.drop keys.length=c::n0.keys.drop (keys.length+1):=by
    rw[List.drop_eq_getElem_cons (by omega)];congr 1
    exact(List.getElem?_eq_some_iff.1 hc).2
   rw[C1,List.flatMap_cons,List.append_assoc]at hr
   have hm:=hmk c (List.mem_of_getElem? hc)
   unfold bp at hm
   rw[Bool.and_eq_true,decide_eq_true_eq,decide_eq_true_eq]at hm
   have hg:=f_ (s:=c) (Nat.le_trans hm.2 (by decide)) ((n0.keys.drop (keys.length+1)).flatMap aQ++pad)
   rw[<-hr]at hg
   rw[hg,Rd.jg hb rfl]
   dsimp only
   rw[List.length_append,List.length_singleton]
   refine⟨rfl,hkk,vv,by have:=(List.getElem?_eq_some_iff.1 hc).1;omega,?_,pad,?_⟩
   . conv=>rhs;rw[List.take_add_one,hc,<-hcs]
     rfl
   . rw[hr,Int.toNat_natCast,List.drop_left]
inductive Jo(bs:List UInt8)(n:Nd)(e:Int):Prop
 |ok:e=0->bz bs n->Jo bs n e
 |bad:e=8->n=BC->(¬∃n0,bz bs n0)->Jo bs n e
theorem ta{bs:List UInt8}{k:Int}{r:Rd}{cells:List Cell}(h:pz bs k r cells)(he:¬0<k\/r.bad=true){n0:Nd}(h0:bz bs n0)(hl:n0.leaf=true):r.bad=false/\n0=⟨true,cells,[],[]⟩:=by
 obtain⟨hb,j,pad,hj,hk,hcs,_⟩:=h.is n0 h0 hl
 have hjl:j=n0.cells.length:=he.elim (fun he=>by omega) (fun he=>by rw[hb]at he;cases he)
 rw[hjl,List.take_length]at hcs
 obtain⟨h1,h2,_⟩:=(b5 hl).1 h0.1.fits.1
 refine⟨hb,?_⟩
 cases n0;simp_all
theorem tc{bs:List UInt8}{k:Int}{i:Nat}{r:Rd}{kids:List Int}{keys:List ByteArray}(h:me bs k i r kids keys)(he:¬((i:Int)<k)\/r.bad=true){n0:Nd}(h0:bz bs n0)(hl:n0.leaf=false):r.bad=false/\n0=⟨false,[],keys,kids⟩:=by
 obtain⟨hb,hk,vv,hj,hcs,_⟩:=h.is n0 h0 hl
 obtain⟨h1,_,_,_,_,_,hlen⟩:=(aS hl).1 h0.1.fits.1
 have hi:=h.II
 have hjl:keys.length=n0.keys.length:=he.elim (fun he=>by omega) (fun he=>by rw[hb]at he;cases he)
 rw[hjl,List.take_length]at hcs
 refine⟨hb,?_⟩
 cases n0;simp_all
theorem xI{u:Nat}(h:u<18446744073709551616): -9223372036854775808<=dV u/\dV u<=9223372036854775807:=by
 unfold dV;split<;>omega
theorem r5:∀(l:List UInt8) (i u:Nat),i<=9->u<128^i-> -9223372036854775808<=(ir i u l).1/\(ir i u l).1<=9223372036854775807
 |[],_,_,_,_=>by unfold ir;decide
 |c::l,i,u,hi,hu=>by
  have hc:=c.toNat_lt
  unfold ir
  by_cases h1:i=9/\1<c.toNat
  . rw[if_pos h1];decide
  rw[if_neg h1]
  have hm:c.toNat%128*128^i<=127*128^i:=Nat.mul_le_mul_right _ (by omega)
  have hp:128^(i+1)=128^i*128:=Nat.pow_succ ..
  by_cases h2:127<c.toNat
  . rw[if_pos h2]
    exact r5 l (i+1) _ (by omega) (by omega)
  rw[if_neg h2]
  by_cases h3:0<i/\c.toNat=0
  . rw[if_pos h3];decide
  rw[if_neg h3]
  refine xI ?_
  by_cases h9:i=9
  . subst h9
    have e:(128:Nat)^9=9223372036854775808:=by decide
    rw[e]at*
    have:c.toNat%128<=1:=by omega
    have:c.toNat%128*9223372036854775808<=1*9223372036854775808:=Nat.mul_le_mul_right _ this
    omega
  . have:128^(i+1)<=128^9:=Nat.pow_le_pow_right (by decide) (by omega)
    have e:(128:Nat)^9=9223372036854775808:=by decide
    omega
theorem oU(l:List UInt8): -9223372036854775808<=(get l).1/\(get l).1<=9223372036854775807:=r5 l 0 0 (by omega) (by decide)
end Go.Pl
end
section
namespace Go.Pl
open Go Go.Sx
variable[aq]
omit [aq] in
theorem td{A B:Chunk}{hs:List Chunk}{b:Nat}{o:Obj}(h:Has (A::hs) b o):Has ((A++B)::hs) b o:=by
 cases h with
 |here hm=>exact .here (List.mem_append_left _ hm)
 |there h=>exact .there h
omit [aq] in
theorem oV{A B:Chunk}{hs:List Chunk}{b:Nat}{o:Obj}(h:Has (B::hs) b o):Has ((A++B)::hs) b o:=by
 cases h with
 |here hm=>exact .here (List.mem_append_right _ hm)
 |there h=>exact .there h
structure gL(tC tS tI:Nat)(cs:List Value)(n:Nd)(H:Chunk):Prop where
 is:∃vc vk vi A B C,cs=[.bool n.leaf,vc,vk,vi]/\H=A++(B++C)/\Own aj 8 tC vc n.cells A/\Own iq 1 tS vk n.keys B/\Own cZ 1 tI vi n.kids C
omit [aq] in
theorem gL.at{tC tS tI:Nat}{cs:List Value}{n:Nd}{H:Chunk}(h:gL tC tS tI cs n H)(hs:List Chunk):fJ (H::hs) cs n:=by
 obtain⟨vc,vk,vi,A,B,C,rfl,rfl,h1,h2,h3⟩:=h.is
 exact⟨vc,vk,vi,rfl,(h1.row (hs:=hs)).mono fun _ _=>td,(h2.row (hs:=hs)).mono fun _ _ h=>oV (td h),(h3.row (hs:=hs)).mono fun _ _ h=>oV (oV h)⟩
omit [aq] in
theorem gL.none(tC tS tI:Nat):gL tC tS tI [.bool false,.slice none 0 0,.slice none 0 0,.slice none 0 0] BC []:=
 ⟨_,_,_,[],[],[],rfl,rfl,Own.nil,Own.nil,Own.nil⟩
omit [aq] in
theorem lA{α:Type}{enc:α->List Value}{sz e:Nat}{v:Value}{xs:List α}{H:Chunk}(h:Own enc sz e v xs H):gE v=true:=by
 obtain⟨_,⟨rfl,_⟩|⟨b,cap,pre,sp,fr,rfl,_⟩⟩:=h<;>rfl
omit [aq] in
theorem gL.Jp{tC tS tI:Nat}{cs:List Value}{n:Nd}{H:Chunk}(h:gL tC tS tI cs n H):dy cs=true:=by
 obtain⟨vc,vk,vi,A,B,C,rfl,_,h1,h2,h3⟩:=h.is
 show(true&&(gE vc&&(gE vk&&(gE vi&&true))))=true
 rw[lA h1,lA h2,lA h3];rfl
omit [aq] in
theorem gL.four{tC tS tI:Nat}{cs:List Value}{n:Nd}{H:Chunk}(h:gL tC tS tI cs n H):cs.length=4:=by
 obtain⟨vc,vk,vi,A,B,C,rfl,_⟩:=h.is;rfl
omit [aq] in
theorem nJ{r r':Rd}(hb:r.bad=false)(h:r'.bad=false->r'.l.length<r.l.length):(if r'.bad=true then 0 else r'.l.length+1)<if r.bad=true then 0 else r.l.length+1:=by
 rw[if_neg (by rw[hb];simp:¬r.bad=true)]
 by_cases j6:r'.bad=true
 . rw[if_pos j6];omega
 . rw[if_neg j6];have:=h (by simpa using j6);omega
end Go.Pl
end
section
namespace Go.Pl
open Go Go.Sx
theorem half{p q:Nat}(h:p+q<=4611686018427387904):IntKind.i64.wrap ((IntKind.u64.wrap (IntKind.i64.wrap ((p:Int)+q))).fdiv (2^min (1:Int).toNat IntKind.u64.bits))=(((p+q)/2:Nat):Int):=by
 have e:(2:Int)^min (1:Int).toNat IntKind.u64.bits=2:=by decide
 rw[e,wrap_i64 (n:=(p:Int)+q) (by omega) (by omega),wrap_u64 (by omega) (by omega),Int.fdiv_eq_ediv_of_nonneg _ (by omega),wrap_i64 (by omega) (by omega)]
 omega
theorem jh{l:List ByteArray}(h:rising l){i j:Nat}{x y:ByteArray}(hij:i<j)(hx:l[i]? =some x)(hy:l[j]? =some y):bY x y=true:=by
 obtain⟨hi,rfl⟩:=List.getElem?_eq_some_iff.1 hx
 obtain⟨hj,rfl⟩:=List.getElem?_eq_some_iff.1 hy
 exact List.pairwise_iff_getElem.1 h i j hi hj hij
structure oI(l:List ByteArray)(k:ByteArray)(i:Nat):Prop where
 le:i<=l.length
 less:∀(j:Nat) (x:ByteArray),j<i->l[j]? =some x->bY x k=true
 rest:∀(j:Nat) (x:ByteArray),i<=j->l[j]? =some x->bY x k=false
end Go.Pl
end
section
namespace Go.Pl
open Go Go.Sx
theorem tf:∀{l1 l2:List Cell} {p1 p2:List UInt8},l1.length=l2.length->(∀c∈l1,aA c=true/\c.val.f<2^64/\c.new.f<2^64)->(∀c∈l2,aA c=true/\c.val.f<2^64/\c.new.f<2^64)->l1.flatMap au++p1=l2.flatMap au++p2->l1=l2
 |[],[],_,_,_,_,_,_=>rfl
 |[],_::_,_,_,h,_,_,_=>by cases h
 |_::_,[],_,_,h,_,_,_=>by cases h
 |a::l1,b::l2,p1,p2,hl,h1,h2,h=>by
  rw[List.flatMap_cons,List.flatMap_cons,List.append_assoc,List.append_assoc]at h
  obtain⟨a1,a2,a3⟩:=h1 a (by simp)
  obtain⟨b1,b2,b3⟩:=h2 b (by simp)
  have e1:=iK a1 a2 a3 (l1.flatMap au++p1)
  have e2:=iK b1 b2 b3 (l2.flatMap au++p2)
  rw[h,e2]at e1
  have e3:b=a:=congrArg Prod.fst e1
  subst e3
  rw[tf (by simpa using hl) (fun c hc=>h1 c (by simp[hc])) (fun c hc=>h2 c (by simp[hc])) (List.append_cancel_left h)]
theorem wT:∀{l1 l2:List Int} {p1 p2:List UInt8},l1.length=l2.length->(∀c∈l1,2<=c/\c<32)->(∀c∈l2,2<=c/\c<32)->l1.flatMap put++p1=l2.flatMap put++p2->l1=l2/\p1=p2
 |[],[],_,_,_,_,_,h=>⟨rfl,by simpa using h⟩
 |[],_::_,_,_,h,_,_,_=>by cases h
 |_::_,[],_,_,h,_,_,_=>by cases h
 |a::l1,b::l2,p1,p2,hl,h1,h2,h=>by
  rw[List.flatMap_cons,List.flatMap_cons,List.append_assoc,List.append_assoc]at h
  have a1:=h1 a (by simp)
  have b1:=h2 b (by simp)
  have e1:=gy (n:=a) (by omega) (by omega) (l1.flatMap put++p1)
  have e2:=gy (n:=b) (by omega) (by omega) (l2.flatMap put++p2)
  rw[h,e2]at e1
  have e3:b=a:=congrArg Prod.fst e1
  subst e3
  obtain⟨h3,h4⟩:=wT (by simpa using hl) (fun c hc=>h1 c (by simp[hc])) (fun c hc=>h2 c (by simp[hc])) (List.append_cancel_left h)
  exact⟨by rw[h3],h4⟩
theorem wU:∀{l1 l2:List ByteArray} {p1 p2:List UInt8},l1.length=l2.length->(∀c∈l1,c.size<=65536)->(∀c∈l2,c.size<=65536)->l1.flatMap aQ++p1=l2.flatMap aQ++p2->l1=l2
 |[],[],_,_,_,_,_,_=>rfl
 |[],_::_,_,_,h,_,_,_=>by cases h
 |_::_,[],_,_,h,_,_,_=>by cases h
 |a::l1,b::l2,p1,p2,hl,h1,h2,h=>by
  rw[List.flatMap_cons,List.flatMap_cons,List.append_assoc,List.append_assoc]at h
  have e1:=f_ (h1 a (by simp)) (l1.flatMap aQ++p1)
  have e2:=f_ (h2 b (by simp)) (l2.flatMap aQ++p2)
  rw[h,e2]at e1
  have e3:b=a:=congrArg Prod.fst e1
  subst e3
  rw[wU (by simpa using hl) (fun c hc=>h1 c (by simp[hc])) (fun c hc=>h2 c (by simp[hc])) (List.append_cancel_left h)]
theorem iH{k:ByteArray}(h:bp k=true):k.size<=16/\k≠⟨#[]⟩:=by
 unfold bp at h
 rw[Bool.and_eq_true,decide_eq_true_eq,decide_eq_true_eq]at h
 exact⟨h.2,h.1⟩
theorem A_{a b:Nat}{p1 p2:List UInt8}(ha:a<=256)(hb:b<=256)(h:put a++p1=put b++p2):a=b/\p1=p2:=by
 have e1:=gy (n:=a) (by omega) (by omega) p1
 have e2:=gy (n:=b) (by omega) (by omega) p2
 rw[h,e2]at e1
 have e3:(b:Int)=a:=congrArg Prod.fst e1
 have e4:a=b:=by omega
 subst e4
 exact⟨rfl,List.append_cancel_left h⟩
theorem cP{bs:List UInt8}{n m:Nd}(h1:bz bs n)(h2:bz bs m):n=m:=by
 have hl:n.leaf=m.leaf:=by rw[mS h1,mS h2]
 cases hn:n.leaf with
 |true=>
  have hm:m.leaf=true:=by rw[<-hl];exact hn
  obtain⟨p1,e1⟩:=lJ h1 hn
  obtain⟨p2,e2⟩:=lJ h2 hm
  rw[e1]at e2
  have e2:=(List.cons.inj e2).2
  obtain⟨e3,e4⟩:=A_ h1.1.fits.j7.1 h2.1.fits.j7.1 e2
  obtain⟨k1,i1,c1,_⟩:=(b5 hn).1 h1.1.fits.1
  obtain⟨k2,i2,c2,_⟩:=(b5 hm).1 h2.1.fits.1
  have:=tf e3 (fun c hc=>⟨c1 c hc,h1.1.fl c hc⟩) (fun c hc=>⟨c2 c hc,h2.1.fl c hc⟩) e4
  cases n;cases m;simp_all
 |false=>
  have hm:m.leaf=false:=by rw[<-hl];exact hn
  obtain⟨p1,e1⟩:=lK h1 hn
  obtain⟨p2,e2⟩:=lK h2 hm
  rw[e1]at e2
  have e2:=(List.cons.inj e2).2
  obtain⟨e3,e4⟩:=A_ h1.1.fits.j7.2 h2.1.fits.j7.2 e2
  obtain⟨k1,i1,_,c1,_,_,l1⟩:=(aS hn).1 h1.1.fits.1
  obtain⟨k2,i2,_,c2,_,_,l2⟩:=(aS hm).1 h2.1.fits.1
  obtain⟨e5,e6⟩:=wT e3 c1 c2 e4
  have:=wU (by omega) (fun c hc=>Nat.le_trans (iH (i1 c hc)).1 (by decide)) (fun c hc=>Nat.le_trans (iH (i2 c hc)).1 (by decide)) e6
  cases n;cases m;simp_all
abbrev TE(α:Type):=Except Int α
abbrev Pg:=Int->Int×List UInt8
def mg(pg:Pg)(no:Int):TE (List UInt8):=if(pg no).1=0 then .ok (pg no).2 else .error (pg no).1
open Classical in
noncomputable def yC(bs:List UInt8):TE Nd:=if h:∃n,bz bs n then .ok h.choose else .error 8
theorem Ba{bs:List UInt8}{n:Nd}(h:bz bs n):yC bs= .ok n:=by
 have hx:∃n,bz bs n:=⟨n,h⟩
 unfold yC;rw[dif_pos hx,cP hx.choose_spec h]
theorem E1{bs:List UInt8}(h:¬∃n,bz bs n):yC bs= .error 8:=by unfold yC;rw[dif_neg h]
theorem GI{bs:List UInt8}{n:Nd}(h:yC bs= .ok n):bz bs n:=by
 unfold yC at h
 split at h
 . rename_i hx;injection h with h;rw[<-h];exact hx.choose_spec
 . cases h
noncomputable def bP(pg:Pg)(no:Int):TE Nd:=(mg pg no).bind yC
def b7(pg:Pg):TE Int:=(mg pg 1).bind fun _=>if(iR (pg 1)).2=0 then .ok (iR (pg 1)).1 else .error 8
theorem gS{pg:Pg}{no:Int}{n:Nd}(h:bP pg no= .ok n):kC n:=by
 unfold bP at h
 cases hp:mg pg no with
 |error e=>rw[hp]at h;cases h
 |ok bs=>rw[hp]at h;exact(GI h).1
def aG(l:List ByteArray)(k:ByteArray):Nat:=l.findIdx fun x=> !bY x k
theorem oI.is{l:List ByteArray}{k:ByteArray}{i:Nat}(h:oI l k i):aG l k=i:=by
 unfold aG
 by_cases hi:i<l.length
 . rw[List.findIdx_eq hi]
   refine⟨?_,fun j hj=> ?_⟩
   . rw[h.rest i _ (Nat.le_refl _) (List.getElem?_eq_getElem hi)];rfl
   . rw[h.less j _ hj (List.getElem?_eq_getElem (by omega))];rfl
 . have:i=l.length:=by have:=h.le;omega
   subst this
   rw[List.findIdx_eq_length]
   intro x hx
   obtain⟨j,hj⟩:=List.getElem?_of_mem hx
   rw[h.less j x (List.getElem?_eq_some_iff.1 hj).1 hj];rfl
theorem jQ{l:List ByteArray}(h:rising l)(k:ByteArray):oI l k (aG l k):=by
 refine⟨List.findIdx_le_length,fun j x hj hx=> ?_,fun j x hj hx=> ?_⟩
 . have hl:=(List.getElem?_eq_some_iff.1 hx).1
   have:=List.not_of_lt_findIdx hj
   rw[(List.getElem?_eq_some_iff.1 hx).2]at this
   simpa using this
 . have hl:=(List.getElem?_eq_some_iff.1 hx).1
   have hlt:aG l k<l.length:=by omega
   have h1:(!bY l[aG l k] k)=true:=List.findIdx_getElem (xs:=l) (p:=fun x=> !bY x k) (w:=hlt)
   rw[Bool.not_eq_true']at h1
   by_cases e:aG l k=j
   . subst e;rw[<-(List.getElem?_eq_some_iff.1 hx).2];exact h1
   . have h2:=jh h (by omega:aG l k<j) (List.getElem?_eq_getElem hlt) hx
     cases hh:bY x k with
     |false=>rfl
     |true=>have:=bB h2 hh;rw[h1]at this;cases this
def bM(keys:List ByteArray)(k:ByteArray):Nat:=if keys[aG keys k]? =some k then aG keys k+1 else aG keys k
def keysOf(cells:List Cell):List ByteArray:=cells.map Cell.key
def cellOf(cells:List Cell)(k:ByteArray):Option Cell:=match cells[aG (keysOf cells) k]?with|some c=>if c.key=k then some c else none|none=>none
theorem gA(keys:List ByteArray)(k:ByteArray):bM keys k<=keys.length:=by
 unfold bM
 split
 . rename_i h;exact(List.getElem?_eq_some_iff.1 h).1
 . exact List.findIdx_le_length
noncomputable def pU(pg:Pg)(k:ByteArray):Nat->Int->TE (Option Cell)
 |0,_=> .error 8
 |f+1,no=>if no=0 then .ok none else(bP pg no).bind fun n=>if n.leaf=true then .ok (cellOf n.cells k)else pU pg k f (n.kids.getD (bM n.keys k) 0)
noncomputable def getTop(pg:Pg)(k:ByteArray):TE (Option Cell):=(b7 pg).bind fun no=>pU pg k 32 no
def aY(n:Nd)(i:Nat):Nd×Nd×ByteArray:=
 if n.leaf=true then(⟨true,n.cells.take i,[],[]⟩,⟨true,n.cells.drop i,[],[]⟩,gP ((keysOf n.cells).getD (i-1) ⟨#[]⟩) ((keysOf n.cells).getD i ⟨#[]⟩))
 else(⟨false,[],n.keys.take (i-1),n.kids.take i⟩,⟨false,[],n.keys.drop i,n.kids.drop i⟩,n.keys.getD (i-1) ⟨#[]⟩)
def cu(n:Nd):Nat:=if n.leaf=true then n.cells.length else n.kids.length
noncomputable def nx(n:Nd)(i:Nat):Nat:=max (qY (aY n i).1) (qY (aY n i).2.1)
noncomputable def sX(n:Nd)(st:Nat×Nat)(i:Nat):Nat×Nat:=
 if Fits (aY n i).1/\Fits (aY n i).2.1/\(st.1=0\/nx n i<st.2)then(i,nx n i)else st
noncomputable def eJ(n:Nd)(m:Nat):Nat×Nat:=(List.range' 1 (m-1)).foldl (sX n) (0,0)
noncomputable def dW(n:Nd):Nat:=(eJ n (cu n)).1
theorem ee(n:Nd){m:Nat}(h:1<=m):eJ n (m+1)=sX n (eJ n m) m:=by
 unfold eJ
 obtain⟨k,rfl⟩:∃k,m=k+1:=⟨m-1,by omega⟩
 rw[Nat.add_sub_cancel,Nat.add_sub_cancel,List.range'_concat,List.foldl_append]
 simp[Nat.add_comm]
theorem lM(n:Nd)(m:Nat):(eJ n m).1=0\/(1<=(eJ n m).1/\(eJ n m).1<m/\Fits (aY n (eJ n m).1).1/\Fits (aY n (eJ n m).1).2.1):=by
 induction m with
 |zero=>exact .inl rfl
 |succ m ih=>
  by_cases h:1<=m
  . rw[ee n h]
    unfold sX
    split
    . rename_i hf;exact .inr ⟨h,by dsimp only;omega,hf.1,hf.2.1⟩
    . rcases ih with ih|⟨h1,h2,h3⟩
      . exact .inl ih
      . exact .inr ⟨h1,by omega,h3⟩
  . have:m=0:=by omega
    subst this;exact .inl rfl
noncomputable def jo(Q:ah)(no:Int)(n:Nd):TE ah:=if(bS n).2=0 then .ok (eW Q no (bS n).1)else .error (bS n).2
def fA(Q:ah):TE (Int×ah):=match kq (Q 1)with
 |some n=> .ok ((n:Int),eW (eW Q 1 (vt (Q 1) n)) (n:Nat) (fT 256))
 |none=> .error 4
def mh(Q:ah)(no:Int):TE ah:=if hasB (Q 1) no=true then .ok (eW Q 1 (vu (Q 1) no.toNat))else .error 8
def cg(Q:ah)(no:Int):ah:=eW Q 1 ((Q 1).set 4 (UInt8.ofNat no.toNat))
abbrev Part:=ByteArray×Int
def kJ:Part:=(⟨#[]⟩,0)
noncomputable def lg(Q:ah)(no:Int)(n:Nd):TE (Part×ah):=
 if Fits n then .ok (kJ,eW Q no (bS n).1)
 else if dW n=0 then .error 8
 else(fA Q).bind fun x=> .ok (((aY n (dW n)).2.2,x.1),eW (eW x.2 no (bS (aY n (dW n)).1).1) x.1 (bS (aY n (dW n)).2.1).1)
def bZ(cells:List Cell)(c:Cell):List Cell:=
 let i:=aG (keysOf cells) c.key
 if(keysOf cells)[i]? =some c.key then cells.set i c else aJ cells i c
noncomputable def bI(c:Cell):Nat->ah->Int->TE (Part×ah)
 |0,_,_=> .error 8
 |f+1,Q,no=>(bP (aI Q) no).bind fun n=>
  if n.leaf=true then lg Q no {n with cells:=bZ n.cells c}
  else(bI c f Q (n.kids.getD (bM n.keys c.key) 0)).bind fun x=>
   if x.1.2=0 then .ok (kJ,x.2)
   else lg x.2 no {n with keys:=aJ n.keys (bM n.keys c.key) x.1.1,kids:=aJ n.kids (bM n.keys c.key+1) x.1.2}
noncomputable def dA(Q:ah)(c:Cell):TE ah:=(b7 (aI Q)).bind fun no=>
 if no=0 then(fA Q).bind fun x=>jo (cg x.2 x.1) x.1 ⟨true,[c],[],[]⟩
 else(bI c 32 Q no).bind fun x=>
  if x.1.2=0 then .ok x.2
  else(fA x.2).bind fun y=>(jo y.2 y.1 ⟨false,[],[x.1.1],[no,x.1.2]⟩).bind fun Q3=> .ok (cg Q3 y.1)
noncomputable def jV(Q:ah)(no:Int)(n:Nd)(left:Nat):TE (Bool×ah):=
 if left=0 then(mh Q no).bind fun Q1=> .ok (true,Q1)else(jo Q no n).bind fun Q1=> .ok (false,Q1)
def bH{α:Type}(xs:List α)(i:Nat):List α:=xs.take i++xs.drop (i+1)
noncomputable def bC(k:ByteArray):Nat->ah->Int->TE ((Bool×Bool)×ah)
 |0,_,_=> .error 8
 |f+1,Q,no=>(bP (aI Q) no).bind fun n=>
  if n.leaf=true then
   if(keysOf n.cells)[aG (keysOf n.cells) k]? =some k then
    (jV Q no {n with cells:=bH n.cells (aG (keysOf n.cells) k)} (n.cells.length-1)).bind fun x=> .ok ((true,x.1),x.2)
   else .ok ((false,false),Q)
  else(bC k f Q (n.kids.getD (bM n.keys k) 0)).bind fun x=>
   if x.1.2=false then .ok ((x.1.1,false),x.2)
   else(jV x.2 no {n with keys:=if 0<n.keys.length then bH n.keys (bM n.keys k-1)else n.keys,kids:=bH n.kids (bM n.keys k)} (n.kids.length-1)).bind fun y=> .ok ((x.1.1,y.1),y.2)
noncomputable def cW:Nat->ah->Int->TE ah
 |0,_,_=> .error 8
 |f+1,Q,no=>(bP (aI Q) no).bind fun n=>
  if n.leaf=true\/1<n.kids.length then .ok Q
  else(mh Q no).bind fun Q1=>cW f (cg Q1 (n.kids.getD 0 0)) (n.kids.getD 0 0)
noncomputable def cV(Q:ah)(k:ByteArray):TE (Bool×ah):=(b7 (aI Q)).bind fun no=>
 if no=0 then .ok (false,Q)
 else(bC k 32 Q no).bind fun x=>
  if x.1.2=true then .ok (x.1.1,cg x.2 0)
  else if x.1.1=true then(cW 32 x.2 no).bind fun Q1=> .ok (true,Q1)else .ok (false,x.2)
abbrev az:=List Int×List Cell
noncomputable def aT(pg:Pg):Nat->Int->az->TE az
 |0,_,_=> .error 8
 |f+1,no,st=>
  if 32<=st.1.length\/no∈st.1 then .error 8
  else(bP pg no).bind fun n=>n.kids.foldl (fun r b8=>r.bind (aT pg f b8)) (.ok (st.1++[no],st.2++n.cells))
noncomputable def eK(pg:Pg):TE az:=(b7 pg).bind fun no=>if no≠0 then aT pg 32 no ([],[])else .ok ([],[])
def bX(keys:List ByteArray)(lo:ByteArray)(i:Nat):ByteArray:=if 0<i then keys.getD (i-1) ⟨#[]⟩else lo
def bF(keys:List ByteArray)(hi:ByteArray)(i:Nat):ByteArray:=if i<keys.length then keys.getD i ⟨#[]⟩else hi
noncomputable def dB(pg:Pg):Nat->Int->ByteArray->ByteArray->Bool->TE Int
 |0,_,_,_,_=> .error 8
 |f+1,no,lo,hi,top=>(bP pg no).bind fun n=>
  if n.leaf=true then
   if top=true\/0<n.cells.length then if n.cells.all fun c=>bu c.key lo hi then .ok 0 else .error 8 else .error 8
  else((List.range n.kids.length).foldl (fun(r:TE Int) i=>r.bind fun deep=>(dB pg f (n.kids.getD i 0) (bX n.keys lo i) (bF n.keys hi i) false).bind fun d=>if deep<0\/d=deep then .ok d else .error 8) (.ok (-1):TE Int)).bind fun deep=> .ok (deep+1)
noncomputable def dD(pg:Pg):TE Unit:=(eK pg).bind fun g=>
 (if g.1=[]then .ok 0 else dB pg 32 (g.1.getD 0 0) ⟨#[]⟩ ⟨#[]⟩ true).bind fun _=>
  if(aX (pg 1)).1≠0 then .error (aX (pg 1)).1
  else if(List.range 32).all fun no=>hasB (aX (pg 1)).2 (no:Nat)==decide ((no:Int)∈g.1)then .ok ()else .error 8
end Go.Pl
end
section
namespace Go.Pl
open Go Go.Sx
theorem Ec:∀a b:List UInt8,decide (Lib.compareBytes a b<0)=Op.bytesLess a b
 |[],[]=>by decide
 |[],_::_=>by unfold Lib.compareBytes Op.bytesLess;rfl
 |_::_,[]=>by unfold Lib.compareBytes Op.bytesLess;rfl
 |x::a,y::b=>by
  unfold Lib.compareBytes Op.bytesLess
  by_cases h:x<y
  . simp[h]
  . rw[if_neg h]
    by_cases h2:y<x
    . have hne:(x==y)=false:=by
       rw[beq_eq_false_iff_ne];intro e;subst e;exact h h2
      simp[h,h2,hne]
    . have he:x=y:=by
       have h:=UInt8.not_lt.1 h
       have h2:=UInt8.not_lt.1 h2
       exact UInt8.le_antisymm h2 h
      subst he
      rw[if_neg h2,Ec a b]
      simp[h2]
theorem cmp_eq:∀a b:List UInt8,decide (Lib.compareBytes a b=0)=decide (a=b)
 |[],[]=>by decide
 |[],_::_=>by unfold Lib.compareBytes;simp
 |_::_,[]=>by unfold Lib.compareBytes;simp
 |x::a,y::b=>by
  unfold Lib.compareBytes
  by_cases h:x<y
  . rw[if_pos h,decide_eq_false (by decide),decide_eq_false]
    intro e;injection e with e _;subst e;exact absurd h (UInt8.lt_irrefl x)
  . rw[if_neg h]
    by_cases h2:y<x
    . rw[if_pos h2,decide_eq_false (by decide),decide_eq_false]
      intro e;injection e with e _;subst e;exact h h2
    . have he:x=y:=UInt8.le_antisymm (UInt8.not_lt.1 h2) (UInt8.not_lt.1 h)
      subst he
      rw[if_neg h2,cmp_eq a b]
      refine decide_eq_decide.2 ⟨fun h=>by rw[h],fun h=>by injection h⟩
def yD(a b:ByteArray):Int:=Lib.compareBytes a.data.toList b.data.toList
theorem GJ(a b:ByteArray):decide (yD a b<0)=bY a b:=Ec _ _
theorem GK(a b:ByteArray):(yD a b==0)=decide (a=b):=by
 rw[show(yD a b==0)=decide (yD a b=0)from rfl]
 unfold yD
 rw[cmp_eq]
 refine decide_eq_decide.2 ⟨fun h=> ?_,fun h=>by rw[h]⟩
 cases a with|mk a=>cases b with|mk b=>cases a;cases b;simp_all
theorem wV(cells:List Cell):(keysOf cells).length=cells.length:=List.length_map _
theorem bG{cells:List Cell}{i:Nat}{c:Cell}(h:cells[i]? =some c):(keysOf cells)[i]? =some c.key:=by unfold keysOf;rw[List.getElem?_map,h];rfl
end Go.Pl
end
section
namespace Go.Sx
open Go
section
variable[aq]{X:Cx}{T:aB}{Cs:List Chunk}{R:dN}{sz e t:Nat}
theorem Fl.bK{x:Operand}{lo hi:Option Operand}{a:Option Addr}{n c:Nat}{vl vh:Option Value}(L H:Nat)(hT:T.ok X.P)(ht:ty T t=some (.slice e sz))(hx:ev R x=some (.slice a n c))
 (hlo:m8 R lo=some vl)(hhi:m8 R hi=some vh)(hL:BM vl 0 L)(hH:BM vh n H)(h1:L<=H)(h2:H<=c):
 Fl X T Cs R (.slice t x lo hi none) (.slice (if c=L then a else a.map (·.add (L*sz))) (H-L) (c-L)):=by
 refine .LJ fun op ac w hop ha=> ?_
 simp only[execOp,hop,ha.ev hx,ha.m8 hlo,ha.m8 hhi,Option.map_none]
 have:=jf (hT.ty ht).1 (hT.ty ht).2.1 a n c vl vh L H hL hH h1 h2 w
 simp[this]
theorem fk{fs:List (Nat×Nat)}{z:Value}{parts:Array (Nat×Operand)}{vs:List (Nat×Value)}{cs:List Value}(hT:T.ok X.P)(ht:ty T t=some (.struct fs sz))(hz:∀w,(zeroValue t).run X.P w= .ok z w)
 (hp:FP R parts.toList=some vs)(hc:jU fs z.cells.toList vs=some cs):Fl X T Cs R (.build t parts) (.agg ⟨cs⟩):=by
 obtain⟨⟨F,hu,hF⟩,_⟩:=hT.ty ht
 refine .LJ fun op a w hop ha=> ?_
 have vO:=ha.FP hp
 have Jk:(parts.map fun x=>match x with|(i,x)=>(i,a.eval x)).toList=vs:=by
  rw[Array.toList_map,<-vO]
 have hmap:∀(F:List Field) (fs:List (Nat×Nat)),eA X.P F fs->(F.mapM fun f=>do pure (f.offset,<-sizeOf f.type):Sem (List (Nat×Nat))).run X.P w= .ok fs w:=by
  intro F fs h
  induction h with
  |nil=>rfl
  |cons ho hs _ ih=>
   rw[List.mapM_cons,Sem.run_bind,Sem.run_bind,hs]
   simp only[Result.andThen_ok,Sem.run_pure]
   rw[Sem.run_bind,ih,ho]
   rfl
 have hrun:(Instr.build t (parts.map fun x=>match x with|(i,x)=>(i,a.eval x))).run X.P w= .ok (.agg ⟨cs⟩) w:=by
  unfold Instr.build
  rw[Sem.run_bind,hz]
  simp only[Result.andThen_ok]
  rw[Sem.run_bind,run_underlying hu]
  simp only[Result.andThen_ok]
  rw[Array.mapM_eq_mapM_toList,Sem.run_bind]
  have hm2:Sem.run X.P (List.toArray<$>(F.toList.mapM fun f=>do pure (f.offset,<-sizeOf f.type):Sem (List (Nat×Nat)))) w= .ok ⟨fs⟩ w:=by
   show Sem.run X.P ((F.toList.mapM fun f=>do pure (f.offset,<-sizeOf f.type):Sem (List (Nat×Nat)))>>=fun x=>pure x.toArray) w=_
   rw[Sem.run_bind,hmap _ _ hF]
   rfl
  rw[hm2]
  simp only[Result.andThen_ok,Jk]
  have fU:=s5 (fs:=fs) (place:=fun i=>(⟨fs⟩:Array (Nat×Nat))[i]?) (fun i p hp=>by simpa using hp) vs z.cells.toList cs hc
  have y8:Instr.fill (fun x=>(⟨fs⟩:Array (Nat×Nat))[x]?) z.cells vs=some ⟨cs⟩:=fU
  rw[y8]
  rfl
 simp only[execOp,hop]
 rw[Sem.run_bind,hrun]
 rfl
end
end Go.Sx
namespace Go.Pl
open Go Go.Sx
theorem kL{α:Type}{enc:α->List Value}{sz:Nat}{hs:List Chunk}{a:Option Addr}{n c:Nat}{xs:List α}(h:Row enc sz hs (.slice a n c) xs){M:Nat}(h2:M<=xs.length):
 Row enc sz hs (.slice (if c=0 then a else a.map (·.add (0*sz))) (M-0) (c-0)) (xs.take M):=by
 have:=h.sub (L:=0) (M:=M) (Nat.zero_le _) h2;rwa[List.drop_zero]at this
theorem fY{α:Type}{enc:α->List Value}{sz:Nat}{hs:List Chunk}{a:Option Addr}{c:Nat}{xs:List α}(h:Row enc sz hs (.slice a xs.length c) xs){L:Nat}(h2:L<=xs.length):
 Row enc sz hs (.slice (if c=L then a else a.map (·.add (L*sz))) (xs.length-L) (c-L)) (xs.drop L):=by
 have:=h.sub (L:=L) (M:=xs.length) h2 (Nat.le_refl _);rwa[List.take_length]at this
theorem gf{n:Nd}(h:n.leaf=true)(i:Nat):aY n i=(⟨true,n.cells.take i,[],[]⟩,⟨true,n.cells.drop i,[],[]⟩,gP ((keysOf n.cells).getD (i-1) ⟨#[]⟩) ((keysOf n.cells).getD i ⟨#[]⟩)):=by
 unfold aY;rw[if_pos h]
theorem gh{n:Nd}(h:n.leaf=false)(i:Nat):aY n i=(⟨false,[],n.keys.take (i-1),n.kids.take i⟩,⟨false,[],n.keys.drop i,n.kids.drop i⟩,n.keys.getD (i-1) ⟨#[]⟩):=by
 unfold aY;rw[if_neg (by rw[h];simp)]
theorem nQ{cells:List Cell}{i:Nat}{c:Cell}(h:cells[i]? =some c):(keysOf cells).getD i ⟨#[]⟩=c.key:=by
 rw[List.getD_eq_getElem?_getD,bG h];rfl
structure pF(n:Nd):Prop where
 cells:n.cells.length<=1000
 keys:n.keys.length<=1000
 kids:n.kids.length<=1000
 fl:∀c∈n.cells,c.val.f<2^64/\c.new.f<2^64
 key:∀c∈n.cells,c.key.size<=1000000
 ways:n.leaf=false->n.keys.length+1=n.kids.length
theorem pF.l{n:Nd}(h:pF n)(i:Nat):(aY n i).1.cells.length<=1000/\(aY n i).1.keys.length<=1000000/\(aY n i).1.kids.length<=1000000/\∀c∈(aY n i).1.cells,c.val.f<2^64/\c.new.f<2^64:=by
 have h1:=h.cells;have h2:=h.keys;have h3:=h.kids
 cases hl:n.leaf with
 |true=>rw[gf hl];exact⟨by rw[List.length_take];omega,Nat.zero_le _,Nat.zero_le _,fun c hc=>h.fl c (List.mem_of_mem_take hc)⟩
 |false=>rw[gh hl];exact⟨Nat.zero_le _,by rw[List.length_take];omega,by rw[List.length_take];omega,fun c hc=>(by cases hc)⟩
theorem pF.r{n:Nd}(h:pF n)(i:Nat):(aY n i).2.1.cells.length<=1000/\(aY n i).2.1.keys.length<=1000000/\(aY n i).2.1.kids.length<=1000000/\∀c∈(aY n i).2.1.cells,c.val.f<2^64/\c.new.f<2^64:=by
 have h1:=h.cells;have h2:=h.keys;have h3:=h.kids
 cases hl:n.leaf with
 |true=>rw[gf hl];exact⟨by rw[List.length_drop];omega,Nat.zero_le _,Nat.zero_le _,fun c hc=>h.fl c (List.mem_of_mem_drop hc)⟩
 |false=>rw[gh hl];exact⟨Nat.zero_le _,by rw[List.length_drop];omega,by rw[List.length_drop];omega,fun c hc=>(by cases hc)⟩
theorem fJ.four{hs:List Chunk}{cs:List Value}{n:Nd}(h:fJ hs cs n):cs.length=4:=by obtain⟨vc,vk,vi,e,_⟩:=h.is;rw[e];rfl
theorem Cb{n:Nd}(h:pF n):cu n<=1000:=by
 unfold cu;split
 . exact h.cells
 . exact h.kids
theorem jb{Q:ah}{no:Int}{n:Nd}(h:Fits n):jo Q no n= .ok (eW Q no (bS n).1):=by unfold jo;rw[if_pos (ff.2 h)]
theorem ru{Q Q':ah}{no:Int}(h:fA Q= .ok (no,Q')):2<=no/\no<32:=by
 unfold fA at h
 split at h
 . rename_i n hn
   have:=wR hn
   injection h with h;injection h with h1 h2;omega
 . cases h
theorem nR{Q:ah}{no:Int}{n:Nd}(h:Fits n):lg Q no n= .ok (kJ,eW Q no (bS n).1):=by unfold lg;rw[if_pos h]
theorem E2{Q:ah}{no:Int}{n:Nd}(h:¬Fits n)(hb:dW n=0):lg Q no n= .error 8:=by unfold lg;rw[if_neg h,if_pos hb]
theorem oW{Q:ah}{no:Int}{n:Nd}{e:Int}(h:¬Fits n)(hb:dW n≠0)(ht:fA Q= .error e):lg Q no n= .error e:=by unfold lg;rw[if_neg h,if_neg hb,ht];rfl
theorem ry{Q Q1:ah}{no to:Int}{n:Nd}(h:¬Fits n)(hb:dW n≠0)(ht:fA Q= .ok (to,Q1)):lg Q no n= .ok (((aY n (dW n)).2.2,to),eW (eW Q1 no (bS (aY n (dW n)).1).1) to (bS (aY n (dW n)).2.1).1):=by unfold lg;rw[if_neg h,if_neg hb,ht];rfl
end Go.Pl
end
section
namespace Go.Pl
open Go Go.Sx
theorem gH{H A B C:Chunk}{rest:List Chunk}:(H::(A++(B++C))::rest).flatten.Perm (H::A::B::C::rest).flatten:=List.Perm.of_eq (by simp only[List.flatten_cons,List.append_assoc])
theorem xJ{x:Cell}{f:Nat}{Q:ah}{no e:Int}(h:bP (aI Q) no= .error e):bI x (f+1) Q no= .error e:=by unfold bI;rw[h];rfl
theorem gC{x:Cell}{f:Nat}{Q:ah}{no:Int}{n:Nd}(h:bP (aI Q) no= .ok n)(hl:n.leaf=true):bI x (f+1) Q no=lg Q no {n with cells:=bZ n.cells x}:=by
 unfold bI;rw[h];show(if _ then _ else _)=_;rw[if_pos hl]
theorem gv{x:Cell}{f:Nat}{Q:ah}{no e:Int}{n:Nd}(h:bP (aI Q) no= .ok n)(hl:n.leaf=false)(h2:bI x f Q (n.kids.getD (bM n.keys x.key) 0)= .error e):bI x (f+1) Q no= .error e:=by
 unfold bI;rw[h];show(if _ then _ else _)=_;rw[if_neg (by rw[hl];simp),h2];rfl
theorem fP{x:Cell}{f:Nat}{Q Q1:ah}{no:Int}{n:Nd}{y:Part}(h:bP (aI Q) no= .ok n)(hl:n.leaf=false)(h2:bI x f Q (n.kids.getD (bM n.keys x.key) 0)= .ok (y,Q1))(h3:y.2=0):bI x (f+1) Q no= .ok (kJ,Q1):=by
 unfold bI;rw[h];show(if _ then _ else _)=_;rw[if_neg (by rw[hl];simp),h2];show(if _ then _ else _)=_;rw[if_pos h3]
theorem kV{x:Cell}{f:Nat}{Q Q1:ah}{no:Int}{n:Nd}{y:Part}(h:bP (aI Q) no= .ok n)(hl:n.leaf=false)(h2:bI x f Q (n.kids.getD (bM n.keys x.key) 0)= .ok (y,Q1))(h3:y.2≠0):
 bI x (f+1) Q no=lg Q1 no {n with keys:=aJ n.keys (bM n.keys x.key) y.1,kids:=aJ n.kids (bM n.keys x.key+1) y.2}:=by
 unfold bI;rw[h];show(if _ then _ else _)=_;rw[if_neg (by rw[hl];simp),h2];show(if _ then _ else _)=_;rw[if_neg h3]
theorem qs{cells:List Cell}{x:Cell}(h:(keysOf cells)[aG (keysOf cells) x.key]? =some x.key):bZ cells x=cells.set (aG (keysOf cells) x.key) x:=by unfold bZ;rw[if_pos h]
theorem rz{cells:List Cell}{x:Cell}(h:¬(keysOf cells)[aG (keysOf cells) x.key]? =some x.key):bZ cells x=aJ cells (aG (keysOf cells) x.key) x:=by unfold bZ;rw[if_neg h]
theorem cz{α:Type}{xs:List α}{i:Nat}{y:α}:(aJ xs i y).length=xs.length+1:=by unfold aJ;simp;omega
theorem lN{α:Type}{xs:List α}{i:Nat}{y z:α}(h:z∈aJ xs i y):z=y\/z∈xs:=by
 unfold aJ at h
 rcases List.mem_append.1 h with h|h
 . exact .inr (List.mem_of_mem_take h)
 . rcases List.mem_cons.1 h with h|h
   . exact .inl h
   . exact .inr (List.mem_of_mem_drop h)
theorem wW{cells:List Cell}{x z:Cell}(h:z∈bZ cells x):z=x\/z∈cells:=by
 unfold bZ at h
 dsimp only at h
 split at h
 . exact(List.mem_or_eq_of_mem_set h).symm
 . exact lN h
theorem E3{cells:List Cell}{x:Cell}:(bZ cells x).length<=cells.length+1:=by
 unfold bZ;dsimp only;split
 . rw[List.length_set];omega
 . rw[cz];exact Nat.le_refl _
structure sD(n:Nd):Prop where
 cells:n.cells.length<=256
 keys:n.keys.length<=32
 kids:n.kids.length<=32
 fl:∀c∈n.cells,c.val.f<2^64/\c.new.f<2^64
 key:∀c∈n.cells,c.key.size<=16
 ways:n.leaf=false->n.keys.length+1=n.kids.length/\∀x∈n.kids,2<=x/\x<32
 leaf:n.leaf=true->n.keys=[]/\n.kids=[]
 fq:rising (keysOf n.cells)
 may:cQ n
theorem kC.nd{n:Nd}(h:kC n):sD n:=by
 have hf:=h.fits.j7
 have hm:=h.fits.1
 cases hl:n.leaf with
 |true=>
  obtain⟨h1,h2,h3,h4⟩:=(b5 hl).1 hm
  exact⟨hf.1,by rw[h1];simp,by rw[h2];simp,h.fl,fun c hc=>(nI (h3 c hc)).key,fun e=>(by rw[hl]at e;cases e),fun _=>⟨h1,h2⟩,h4,hm⟩
 |false=>
  obtain⟨h1,h2,h3,h4,h5,h6,h7⟩:=(aS hl).1 hm
  exact⟨hf.1,by omega,h6,h.fl,fun c hc=>(by rw[h1]at hc;cases hc),fun _=>⟨h7,h4⟩,fun e=>(by rw[hl]at e;cases e),(by rw[h1];exact List.Pairwise.nil),hm⟩
theorem sD.E4{n:Nd}(h:sD n)(hl:n.leaf=true){x:Cell}(hx:aA x=true)(fR:x.val.f<2^64/\x.new.f<2^64):pF {n with cells:=bZ n.cells x}:=by
 have h1:=h.cells;have h2:=h.keys;have h3:=h.kids
 refine⟨?_,by dsimp only;omega,by dsimp only;omega,fun c hc=> ?_,fun c hc=> ?_,fun e=>(by dsimp only at e;rw[hl]at e;cases e)⟩
 . have:=E3 (cells:=n.cells) (x:=x);dsimp only;omega
 . rcases wW hc with rfl|hc
   . exact fR
   . exact h.fl c hc
 . rcases wW hc with rfl|hc
   . exact Nat.le_trans (nI hx).key (by decide)
   . exact Nat.le_trans (h.key c hc) (by decide)
theorem sD.E5{n:Nd}(h:sD n)(hl:n.leaf=false)(i j:Nat)(k:ByteArray)(to:Int):pF {n with keys:=aJ n.keys i k,kids:=aJ n.kids j to}:=by
 have h1:=h.cells;have h2:=h.keys;have h3:=h.kids
 refine⟨by dsimp only;omega,by dsimp only;rw[cz];omega,by dsimp only;rw[cz];omega,h.fl,fun c hc=>Nat.le_trans (h.key c hc) (by decide),fun _=> ?_⟩
 dsimp only;rw[cz,cz,(h.ways hl).1]
theorem sD.b8{n:Nd}(h:sD n)(hl:n.leaf=false)(k:ByteArray):∃no,n.kids[bM n.keys k]? =some no/\n.kids.getD (bM n.keys k) 0=no/\av no:=by
 have h1:=gA n.keys k
 have h2:=(h.ways hl).1
 obtain⟨no,hno⟩:∃no,n.kids[bM n.keys k]? =some no:=⟨_,List.getElem?_eq_getElem (by omega)⟩
 refine⟨no,hno,by rw[List.getD_eq_getElem?_getD,hno];rfl,?_⟩
 have:=(h.ways hl).2 no (List.mem_of_getElem? hno)
 exact this
theorem jc{no:Int}(h:av no):aF no:=by unfold av at h;unfold aF;omega
theorem gI{no:Int}(h:av no): -9223372036854775808<=no/\no<=9223372036854775807:=by unfold av at h;omega
theorem Bb{b:Bool}{v1 v2 v3:Value}(h1:gE v1=true)(h2:gE v2=true)(h3:gE v3=true):dy [.bool b,v1,v2,v3]=true:=by
 show(true&&(gE v1&&(gE v2&&(gE v3&&true))))=true
 rw[h1,h2,h3];rfl
theorem dO{cells:List Cell}{i:Nat}{k:ByteArray}(h:(keysOf cells)[i]? =some k):∃z,cells[i]? =some z/\z.key=k:=by
 unfold keysOf at h
 rw[List.getElem?_map]at h
 cases hc:cells[i]?with
 |none=>rw[hc]at h;cases h
 |some z=>rw[hc]at h;injection h with h;exact⟨z,rfl,h⟩
end Go.Pl
end
section
namespace Go.Pl
open Go Go.Sx
variable{k:ByteArray}{f:Nat}{Q Q1:ah}{no e:Int}{n:Nd}
theorem xK(h:bP (aI Q) no= .error e):bC k (f+1) Q no= .error e:=by unfold bC;rw[h];rfl
theorem u9(h:bP (aI Q) no= .ok n)(hl:n.leaf=true)(h2:¬(keysOf n.cells)[aG (keysOf n.cells) k]? =some k):bC k (f+1) Q no= .ok ((false,false),Q):=by
 unfold bC;rw[h];show(if _ then _ else _)=_;rw[if_pos hl,if_neg h2]
theorem oe(h:bP (aI Q) no= .ok n)(hl:n.leaf=true)(h2:(keysOf n.cells)[aG (keysOf n.cells) k]? =some k):
 bC k (f+1) Q no=(jV Q no {n with cells:=bH n.cells (aG (keysOf n.cells) k)} (n.cells.length-1)).bind fun x=> .ok ((true,x.1),x.2):=by
 unfold bC;rw[h];show(if _ then _ else _)=_;rw[if_pos hl,if_pos h2]
theorem ql(h:bP (aI Q) no= .ok n)(hl:n.leaf=false)(h2:bC k f Q (n.kids.getD (bM n.keys k) 0)= .error e):bC k (f+1) Q no= .error e:=by
 unfold bC;rw[h];show(if _ then _ else _)=_;rw[if_neg (by rw[hl];simp),h2];rfl
theorem fQ{y:Bool×Bool}(h:bP (aI Q) no= .ok n)(hl:n.leaf=false)(h2:bC k f Q (n.kids.getD (bM n.keys k) 0)= .ok (y,Q1))(h3:y.2=false):bC k (f+1) Q no= .ok ((y.1,false),Q1):=by
 unfold bC;rw[h];show(if _ then _ else _)=_;rw[if_neg (by rw[hl];simp),h2];show(if _ then _ else _)=_;rw[if_pos h3]
def dm(n:Nd)(i:Nat):Nd:={n with keys:=if 0<n.keys.length then bH n.keys (i-1)else n.keys,kids:=bH n.kids i}
theorem kW{y:Bool×Bool}(h:bP (aI Q) no= .ok n)(hl:n.leaf=false)(h2:bC k f Q (n.kids.getD (bM n.keys k) 0)= .ok (y,Q1))(h3:y.2≠false):
 bC k (f+1) Q no=(jV Q1 no (dm n (bM n.keys k)) (n.kids.length-1)).bind fun z=> .ok ((y.1,z.1),z.2):=by
 unfold bC dm;rw[h];show(if _ then _ else _)=_;rw[if_neg (by rw[hl];simp),h2];show(if _ then _ else _)=_;rw[if_neg h3]
theorem dh{α:Type}{xs:List α}{i:Nat}(h:i<xs.length):(bH xs i).length=xs.length-1:=by unfold bH;rw[List.length_append,List.length_take,List.length_drop];omega
theorem Cc{α:Type}{xs:List α}{i:Nat}{z:α}(h:z∈bH xs i):z∈xs:=by
 unfold bH at h
 rcases List.mem_append.1 h with h|h
 . exact List.mem_of_mem_take h
 . exact List.mem_of_mem_drop h
theorem xL(n:Nd)(i:Nat):(dm n i).keys.length<=n.keys.length:=by
 unfold dm;dsimp only;split
 . unfold bH;rw[List.length_append,List.length_take,List.length_drop];omega
 . exact Nat.le_refl _
theorem jD{left:Nat}(h:left=0):jV Q no n left=(mh Q no).bind fun Q1=> .ok (true,Q1):=by unfold jV;rw[if_pos h]
theorem jE{left:Nat}(h:left≠0):jV Q no n left=(jo Q no n).bind fun Q1=> .ok (false,Q1):=by unfold jV;rw[if_neg h]
theorem a_{α β:Type}{x:TE α}{g:α->TE β}(h:x= .error e):x.bind g= .error e:=by rw[h];rfl
theorem aK{α β:Type}{x:TE α}{g:α->TE β}{a:α}(h:x= .ok a):x.bind g=g a:=by rw[h];rfl
theorem xM(h:bP (aI Q) no= .error e):cW (f+1) Q no= .error e:=by unfold cW;rw[h];rfl
theorem gD(h:bP (aI Q) no= .ok n)(hl:n.leaf=true\/1<n.kids.length):cW (f+1) Q no= .ok Q:=by unfold cW;rw[h];show(if _ then _ else _)=_;rw[if_pos hl]
theorem jR(h:bP (aI Q) no= .ok n)(hl:¬(n.leaf=true\/1<n.kids.length)):cW (f+1) Q no=(mh Q no).bind fun Q1=>cW f (cg Q1 (n.kids.getD 0 0)) (n.kids.getD 0 0):=by
 conv=>lhs;unfold cW
 rw[h];show(if _ then _ else _)=_;rw[if_neg hl]
theorem nS{Q:ah}{m:oO}(h:gp m):lay Q (yA Q (de Q m) 96)=de Q m:=by
 have key:∀(l:List Int) (P:ah) (no:Int),(lay P (l.filterMap fun no=>if de Q m no=Q no then none else some (no,de Q m no))) no=if no∈l/\de Q m no≠Q no then de Q m no else P no:=by
  intro l
  induction l with
  |nil=>intro P no;simp[lay]
  |cons x l ih=>
   intro P no
   rw[List.filterMap_cons]
   by_cases hx:de Q m x=Q x
   . rw[if_pos hx]
     rw[ih P no]
     by_cases hn:no=x
     . subst hn;rw[if_neg (fun h=>h.2 hx),if_neg (fun h=>h.2 hx)]
     . congr 1;simp[hn]
   . rw[if_neg hx]
     show(lay (eW P x (de Q m x)) _) no=_
     rw[ih]
     by_cases hn:no=x
     . subst hn
       rw[if_pos (⟨by simp,hx⟩:no∈no::l/\_)]
       split
       . rfl
       . unfold eW;rw[if_pos rfl]
     . have e1:eW P x (de Q m x) no=P no:=by unfold eW;rw[if_neg hn]
       rw[e1];congr 1;simp[hn]
 funext no
 unfold yA
 rw[key]
 by_cases hn:de Q m no=Q no
 . rw[if_neg (fun h=>h.2 hn),hn]
 . refine if_pos ⟨?_,hn⟩
   have hm:aF no:=by
    unfold de at hn
    cases hx:m no with
    |none=>rw[hx]at hn;exact absurd rfl hn
    |some x=>exact(h no x hx).1
   unfold aF at hm
   exact List.mem_map.2 ⟨no.toNat,List.mem_range.2 (by omega),by omega⟩
theorem aM.nS{sT b:Nat}{v:Value}{I:Chunk->Prop}{Qb Qt:ah}{H:Chunk}(h:aM sT b v I Qb Qt H):lay Qb (yA Qb Qt 96)=Qt:=by
 obtain⟨m,hm,rfl⟩:=h;exact Go.Pl.nS hm.may
theorem wX{P:ah}{l:List sC}{i:Nat}{x:sC}(h:l[i]? =some x):lay P (l.take (i+1))=eW (lay P (l.take i)) x.1 x.2:=by
 rw[List.take_add_one,h];unfold lay;rw[List.foldl_append];rfl
theorem wY{H X M G:Chunk}{rest:List Chunk}:(H::((X++M)++G)::rest).flatten.Perm (H::X::M::G::rest).flatten:=List.Perm.of_eq (by simp only[List.flatten_cons,List.append_assoc])
theorem E6{sT b:Nat}{P:Value}{I:Chunk->Prop}{E:Int->Chunk->Prop}{Qb Qs:ah}{bd:Bool}{G:Chunk}(h:St (aM sT b P I Qb Qs) (cD sT b P E) bd G):∃m,iu sT b P (St I E bd) m G/\(bd=false->de Qb m=Qs):=by
 cases bd with
 |false=>obtain⟨m,h1,h2⟩:=h;exact⟨m,h1,fun _=>h2.symm⟩
 |true=>obtain⟨_,m,h1⟩:=h;exact⟨m,h1,fun h=>by cases h⟩
theorem Kj{sT b:Nat}{P:Value}{I:Chunk->Prop}{E:Int->Chunk->Prop}{Qb Q:ah}{bd:Bool}{m:oO}{G:Chunk}(h:iu sT b P (St I E bd) m G)(h2:bd=false->de Qb m=Q):aM sT b P I Qb Q G\/cD sT b P E 0 G:=by
 cases bd with
 |false=>exact .inl ⟨m,h,(h2 rfl).symm⟩
 |true=>exact .inr ⟨m,h⟩
theorem Bc{hs:List Chunk}{v:Value}{ts:List Im}{x:Im}(h:l_ hs v ts)(hx:x∈ts):dy (qN x)=true:=by
 have:=rW (h.each x hx)
 show(true&&(gE x.v&&true))=true
 rw[this];rfl
end Go.Pl
end
section
namespace Go.Pl
open Go Go.Sx
theorem ji{H X Y:Chunk}{rest:List Chunk}:(H::(X++Y)::rest).flatten.Perm (H::X::Y::rest).flatten:=List.Perm.of_eq (by simp only[List.flatten_cons,List.append_assoc])
theorem E7{H X Y:Chunk}{rest:List Chunk}:(X::Y::H::rest).flatten.Perm (H::(Y++X)::rest).flatten:=by
 simp only[List.flatten_cons,List.append_assoc]
 refine(List.perm_append_comm_assoc X Y _).trans ?_
 refine(List.Perm.append_left Y (List.perm_append_comm_assoc X H _)).trans ?_
 exact List.perm_append_comm_assoc Y H _
theorem aH.y9[aq]{P:Program}{f:Nat}{vs:List Value}{hs:List Chunk}{N N' E E':Value->List Chunk->Prop}(h:aH P f vs hs N E)(hn:∀v dz,N v dz->∃ki,N' v ki/\dz.flatten.Perm ki.flatten)(he:∀v dz,E v dz->∃ki,E' v ki/\dz.flatten.Perm ki.flatten):aH P f vs hs N' E':=fun w hm=>
 (h w hm).mono fun _ _ h=>by
  rcases h with⟨v,dz,e,hN,hM⟩|⟨v,dz,e,hN,hM⟩
  . obtain⟨ki,h2,hp⟩:=hn _ _ hN;exact .inl ⟨v,ki,e,h2,hM.perm hp⟩
  . obtain⟨ki,h2,hp⟩:=he _ _ hN;exact .inr ⟨v,ki,e,h2,hM.perm hp⟩
theorem jj{pg:Pg}{no:Int}(h:b7 pg= .ok no):no=0\/av no:=by
 unfold b7 at h
 cases hp:mg pg 1 with
 |error e=>rw[hp]at h;cases h
 |ok bs=>
  rw[hp]at h
  have h:(if(iR (pg 1)).2=0 then(.ok (iR (pg 1)).1:TE Int)else .error 8)= .ok no:=h
  by_cases hx:(iR (pg 1)).2=0
  . rw[if_pos hx]at h
    injection h with h
    unfold iR at h hx
    dsimp only at h hx
    split at h
    . exact .inl h.symm
    . rename_i h1
      rw[if_neg h1]at hx
      split at h
      . exact .inl h.symm
      . rename_i h2
        dsimp only at h
        by_cases hz:no=0
        . exact .inl hz
        . refine .inr (Decidable.byContradiction fun hu=>h2 ⟨by rw[h];exact hz,by rw[h];exact hu⟩)
  . rw[if_neg hx]at h;cases h
section
variable{Q:ah}{x:Cell}{no e:Int}
theorem zS(h:b7 (aI Q)= .error e):dA Q x= .error e:=by unfold dA;exact a_ h
theorem jF(h:b7 (aI Q)= .ok no)(h0:no=0):dA Q x=(fA Q).bind fun y=>jo (cg y.2 y.1) y.1 ⟨true,[x],[],[]⟩:=by
 unfold dA;refine(aK h).trans ?_;exact if_pos h0
theorem lO(h:b7 (aI Q)= .ok no)(h0:no≠0):dA Q x=(bI x 32 Q no).bind fun y=>
 if y.1.2=0 then .ok y.2 else(fA y.2).bind fun z=>(jo z.2 z.1 ⟨false,[],[y.1.1],[no,y.1.2]⟩).bind fun Q3=> .ok (cg Q3 z.1):=by
 unfold dA;refine(aK h).trans ?_;exact if_neg h0
theorem mT{y:Part}{Q1:ah}(h:b7 (aI Q)= .ok no)(h0:no≠0)(h1:bI x 32 Q no= .ok (y,Q1))(h2:y.2=0):dA Q x= .ok Q1:=by
 rw[lO h h0];refine(aK h1).trans ?_;exact if_pos h2
theorem jG{y:Part}{Q1:ah}(h:b7 (aI Q)= .ok no)(h0:no≠0)(h1:bI x 32 Q no= .ok (y,Q1))(h2:y.2≠0):dA Q x=(fA Q1).bind fun z=>(jo z.2 z.1 ⟨false,[],[y.1],[no,y.2]⟩).bind fun Q3=> .ok (cg Q3 z.1):=by
 rw[lO h h0];refine(aK h1).trans ?_;exact if_neg h2
variable{k:ByteArray}
theorem zT(h:b7 (aI Q)= .error e):cV Q k= .error e:=by unfold cV;exact a_ h
theorem qa(h:b7 (aI Q)= .ok no)(h0:no=0):cV Q k= .ok (false,Q):=by unfold cV;refine(aK h).trans ?_;exact if_pos h0
theorem lP(h:b7 (aI Q)= .ok no)(h0:no≠0):cV Q k=(bC k 32 Q no).bind fun x=>
 if x.1.2=true then .ok (x.1.1,cg x.2 0)
 else if x.1.1=true then(cW 32 x.2 no).bind fun Q1=> .ok (true,Q1)else .ok (false,x.2):=by
 unfold cV;refine(aK h).trans ?_;exact if_neg h0
theorem qb{y:Bool×Bool}{Q1:ah}(h:b7 (aI Q)= .ok no)(h0:no≠0)(h1:bC k 32 Q no= .ok (y,Q1))(h2:y.2=true):cV Q k= .ok (y.1,cg Q1 0):=by
 rw[lP h h0];refine(aK h1).trans ?_;exact if_pos h2
theorem mU{y:Bool×Bool}{Q1:ah}(h:b7 (aI Q)= .ok no)(h0:no≠0)(h1:bC k 32 Q no= .ok (y,Q1))(h2:y.2=false)(h3:y.1=true):cV Q k=(cW 32 Q1 no).bind fun Q2=> .ok (true,Q2):=by
 rw[lP h h0];refine(aK h1).trans ?_
 show(if _ then _ else _)=_
 rw[if_neg (by dsimp only;rw[h2];simp)];exact if_pos h3
theorem r6{y:Bool×Bool}{Q1:ah}(h:b7 (aI Q)= .ok no)(h0:no≠0)(h1:bC k 32 Q no= .ok (y,Q1))(h2:y.2=false)(h3:y.1=false):cV Q k= .ok (false,Q1):=by
 rw[lP h h0];refine(aK h1).trans ?_
 show(if _ then _ else _)=_
 rw[if_neg (by dsimp only;rw[h2];simp)];exact if_neg (by dsimp only;rw[h3];simp)
end
end Go.Pl
end
section
namespace Go.Pl
open Go Go.Sx
section
variable{pg:Pg}{k:ByteArray}{f:Nat}{no e:Int}{n:Nd}
theorem lQ:pU pg k (f+1) no=if no=0 then .ok none else(bP pg no).bind fun n=>if n.leaf=true then .ok (cellOf n.cells k)else pU pg k f (n.kids.getD (bM n.keys k) 0):=rfl
theorem tg(h:no=0):pU pg k (f+1) no= .ok none:=by rw[lQ];exact if_pos h
theorem E8(h0:no≠0)(h:bP pg no= .error e):pU pg k (f+1) no= .error e:=by rw[lQ,if_neg h0];exact a_ h
theorem oX(h0:no≠0)(h:bP pg no= .ok n)(hl:n.leaf=true):pU pg k (f+1) no= .ok (cellOf n.cells k):=by
 rw[lQ,if_neg h0];refine(aK h).trans ?_;exact if_pos hl
theorem wZ(h0:no≠0)(h:bP pg no= .ok n)(hl:n.leaf=false):pU pg k (f+1) no=pU pg k f (n.kids.getD (bM n.keys k) 0):=by
 have hl:¬n.leaf=true:=by rw[hl];simp
 rw[lQ,if_neg h0];refine(aK h).trans ?_;exact if_neg hl
theorem zU(h:b7 pg= .error e):getTop pg k= .error e:=by unfold getTop;exact a_ h
theorem oY(h:b7 pg= .ok no):getTop pg k=pU pg k 32 no:=by unfold getTop;exact aK h
theorem th{cells:List Cell}{z:Cell}(h1:cells[aG (keysOf cells) k]? =some z)(h2:z.key=k):cellOf cells k=some z:=by
 unfold cellOf;rw[h1];exact if_pos h2
theorem iD{cells:List Cell}(h:¬(keysOf cells)[aG (keysOf cells) k]? =some k):cellOf cells k=none:=by
 unfold cellOf
 unfold keysOf at h⊢
 rw[List.getElem?_map]at h
 split
 . rename_i c hc
   refine if_neg fun e=>h ?_
   rw[hc,Option.map_some,e]
 . rfl
end
end Go.Pl
end
