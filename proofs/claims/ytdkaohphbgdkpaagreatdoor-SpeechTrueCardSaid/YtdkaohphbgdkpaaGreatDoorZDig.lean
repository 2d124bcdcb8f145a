/- - -/

set_option maxHeartbeats 40000000
set_option maxRecDepth 1000000
namespace Go.Proofs.YtdkaohphbgdkpaaGreatDoor
def val (B:Nat):List Nat→Nat
 | []=>0
 | d::ds=>d+B*val B ds
def digF (B:Nat):Nat→Nat→List Nat
 | 0,_=>[]
 | f+1,n=>if n=0 then [] else n%B::digF B f (n/B)
def dig (B n:Nat):List Nat:=digF B n n
theorem jK_ {B n:Nat} (hB:2≤B) (hn:0<n):n/B<n:=Nat.div_lt_self hn hB
theorem xK_ {B:Nat} (hB:2≤B):∀(f g n:Nat),n≤f→n≤g→digF B f n=digF B g n:=by
 intro f
 induction f with
 | zero => intro g n hf hg;obtain rfl:n=0:=by omega
           cases g <;> simp[digF]
 | succ f ih=>
  intro g n hf hg
  cases g with
  | zero => obtain rfl:n=0:=by omega
            simp[digF]
  | succ g=>
   by_cases h:n=0
   ·simp[digF,h]
   ·have:=jK_ hB (Nat.pos_of_ne_zero h)
    simp only[digF,if_neg h]
    rw[ih g (n/B) (by omega) (by omega)]
theorem dR_ (B:Nat):dig B 0=[]:=rfl
theorem cD_ {B n:Nat} (hB:2≤B) (hn:0<n):dig B n=n%B::dig B (n/B):=by
 have:=jK_ hB hn
 unfold dig
 obtain⟨m,rfl⟩:∃m,n=m+1:=⟨n-1,by omega⟩
 rw[digF,if_neg (by omega)]
 rw[xK_ hB m ((m+1)/B) ((m+1)/B) (by omega) (by omega)]
theorem fM_ {B:Nat} (hB:2≤B) {P:Nat→Prop} (h0:P 0) (hs:∀n,0<n→P (n/B)→P n) (n:Nat):P n:=by
 induction n using Nat.strongRecOn with
 | _ n ih=>
  by_cases h:n=0
  ·rw[h];exact h0
  ·exact hs n (by omega) (ih _ (jK_ hB (by omega)))
theorem cA_ {B:Nat} (hB:2≤B) (n:Nat):val B (dig B n)=n:=by
 induction n using fM_ hB with
 | h0=>rfl
 | hs n hn ih=>rw[cD_ hB hn,val,ih];exact Nat.mod_add_div n B
theorem bR_ {B:Nat} (hB:2≤B) (n:Nat):∀d∈dig B n,d<B:=by
 induction n using fM_ hB with
 | h0=>intro d hd;simp[dR_] at hd
 | hs n hn ih=>
  intro d hd
  rw[cD_ hB hn] at hd
  rcases List.mem_cons.1 hd with rfl|h
  ·exact Nat.mod_lt _ (by omega)
  ·exact ih d h
theorem pN_ {B n:Nat} (hB:2≤B):dig B n=[]↔n=0:=by
 constructor
 ·intro h
  by_cases hn:n=0
  ·exact hn
  ·rw[cD_ hB (by omega)] at h;cases h
 ·rintro rfl;rfl
theorem cG_ (B:Nat) (a b:List Nat):val B (a++b)=val B a+B^a.length*val B b:=by
 induction a with
 | nil=>simp[val]
 | cons d ds ih=>simp only[List.cons_append,val,ih,List.length_cons,Nat.pow_succ,Nat.mul_add];rw[Nat.mul_comm (B^ds.length) B,Nat.mul_assoc];omega
theorem qA_ {B:Nat} (_hB:2≤B):∀(l:List Nat),(∀d∈l,d<B)→val B l<B^l.length:=by
 intro l
 induction l with
 | nil=>intro _;simp[val]
 | cons d ds ih=>
  intro h
  have h1:=ih (fun x hx=>h x (List.mem_cons_of_mem _ hx))
  have h2:=h d (List.mem_cons_self)
  simp only[val,List.length_cons,Nat.pow_succ]
  have:B*(val B ds+1)≤B*B^ds.length:=Nat.mul_le_mul_left B h1
  rw[Nat.mul_comm (B^ds.length) B]
  rw[Nat.mul_add] at this
  omega
theorem xI_ {B d:Nat} (hB:2≤B) (hd:0<d) (h:d<B):dig B d=[d]:=by
 rw[cD_ hB hd,Nat.mod_eq_of_lt h,Nat.div_eq_of_lt h,dR_]
theorem rC_ {B d n:Nat} (hB:2≤B) (h:d<B) (hp:0<d+B*n):dig B (d+B*n)=d::dig B n:=by
 rw[cD_ hB hp,Nat.add_mul_mod_self_left,Nat.mod_eq_of_lt h,Nat.add_mul_div_left _ _ (by omega),Nat.div_eq_of_lt h,Nat.zero_add]
def trim:List Nat→List Nat
 | []=>[]
 | d::ds=>if d=0∧trim ds=[] then [] else d::trim ds
theorem eF_ {B:Nat} (hB:2≤B):∀(l:List Nat),(∀d∈l,d<B)→trim l=dig B (val B l):=by
 intro l
 induction l with
 | nil=>intro _;rfl
 | cons d ds ih=>
  intro h
  have e:=ih (fun x hx=>h x (List.mem_cons_of_mem _ hx))
  have hd:=h d (List.mem_cons_self)
  simp only[trim,val,e,pN_ hB]
  by_cases hz:d=0∧val B ds=0
  ·rw[if_pos hz,hz.1,hz.2];rfl
  ·rw[if_neg hz,rC_ hB hd]
   by_cases h0:d=0
   ·have h1:val B ds≠0:=fun h=>hz ⟨h0,h⟩
    have:=Nat.mul_pos (show 0<B by omega) (Nat.pos_of_ne_zero h1)
    omega
   ·omega
theorem fR_:∀(l:List Nat),trim (l++[0])=trim l:=by
 intro l
 induction l with
 | nil=>rfl
 | cons d ds ih=>simp only[List.cons_append,trim,ih]
theorem hJ_ {d:Nat} (hd:d≠0):∀(l:List Nat),trim (l++[d])=l++[d]:=by
 intro l
 induction l with
 | nil=>simp[trim,hd]
 | cons x ds ih=>simp only[List.cons_append,trim,ih];rw[if_neg (by simp)]
theorem mV_ {l:List Nat} (h:∀d,l.getLast?=some d→d≠0):trim l=l:=by
 rcases List.eq_nil_or_concat l with rfl|⟨ini,d,rfl⟩
 ·rfl
 ·simp only[List.concat_eq_append]
  exact hJ_ (h d (by simp)) ini
theorem jS_ {l:List Nat} {k:Nat} (h:l[k]?.getD 0=0) (hk:k<l.length):trim (l.take (k+1))=trim (l.take k):=by
 rw[List.take_succ_eq_append_getElem hk]
 have:l[k]=0:=by simpa[hk] using h
 rw[this,fR_]
theorem mU_ {l:List Nat} {k:Nat} (h:l[k]?.getD 0≠0) (hk:k<l.length):trim (l.take (k+1))=l.take (k+1):=by
 rw[List.take_succ_eq_append_getElem hk]
 exact hJ_ (by simpa[hk] using h) _
theorem aQ_ {B:Nat} (hB:2≤B) (n k:Nat):(dig B n).length≤k↔n<B^k:=by
 constructor
 ·intro h
  have h1:=qA_ hB (dig B n) (bR_ hB n)
  rw[cA_ hB] at h1
  exact Nat.lt_of_lt_of_le h1 (Nat.pow_le_pow_right (by omega) h)
 ·intro h
  induction n using fM_ hB generalizing k with
  | h0=>simp[dR_]
  | hs n hn ih=>
   rw[cD_ hB hn]
   cases k with
   | zero=>simp at h;omega
   | succ k=>
    have:n/B<B^k:=by
     rw[Nat.div_lt_iff_lt_mul (by omega)]
     rw[Nat.pow_succ] at h
     exact h
    have:=ih k this
    simp only[List.length_cons]
    omega
theorem aR_ {B n m:Nat} (hB:2≤B) (h:m≤n):(dig B m).length≤(dig B n).length:=by
 rw[aQ_ hB]
 exact Nat.lt_of_le_of_lt h ((aQ_ hB n _).1 (Nat.le_refl _))
theorem aBE {B:Nat} (hB:2≤B) (n:Nat):trim (dig B n)=dig B n:=by
 rw[eF_ hB _ (bR_ hB n),cA_ hB]
theorem xJ_ {B n m:Nat} (hB:2≤B) (h:dig B n=dig B m):n=m:=by rw[←cA_ hB n,←cA_ hB m,h]
theorem lF_ (B:Nat) (l:List Nat) (k:Nat) (hk:k<l.length):val B (l.take (k+1))=val B (l.take k)+B^k*(l[k]?.getD 0):=by
 rw[List.take_succ_eq_append_getElem hk,cG_]
 simp[val,hk,Nat.min_eq_left (Nat.le_of_lt hk)]
end Go.Proofs.YtdkaohphbgdkpaaGreatDoor
