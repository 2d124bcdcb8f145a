/- - -/
import Derived.Lib.MinMax
import Derived.Deep.RegionHeld3
import Derived.Test.YtjfdefglpoancaaGreatDoorZRg
import Derived.Test.YtjfdefglpoancaaGreatDoorZHg
import Derived.Test.YtjfdefglpoancaaGreatDoorZAri
set_option maxHeartbeats 40000000
set_option maxRecDepth 1000000
open Go.Lib (hid)
namespace Go.Proofs.YtjfdefglpoancaaGreatDoor
open Go.RowKit Go.Shelf Go.Sort
attribute [local go_sem] Oper.semAt_some
def mI_:Code→List Code
 | .loop c=>c::mI_ c
 | .seq a b=>mI_ a++mI_ b
 | .cond _ a b=>mI_ a++mI_ b
 | .block _ c=>mI_ c
 | .scope c=>mI_ c
 | _=>[]
noncomputable def mS_ (k:Nat):Code:=((mI_ (Tryz.f3.body.getD .skip))[k]?).getD .skip
theorem bQ_ {b o i j k:Nat} {ps:List Pl} {p q r:Pl} {W:World} (h:PtAt (some ⟨b,o,none⟩) ps W) (hp:ps[i]?=some p) (hq:ps[j]?=some q) (hr:ps[k]?=some r) :
  (W.cell? ⟨b,o+i*2,none⟩=some (.int .i64 p.x)∧W.cell? ⟨b,o+i*2+1,none⟩=some (.int .i64 p.y))∧(W.cell? ⟨b,o+j*2,none⟩=some (.int .i64 q.x)∧W.cell? ⟨b,o+j*2+1,none⟩=some (.int .i64 q.y))∧(W.cell? ⟨b,o+k*2,none⟩=some (.int .i64 r.x)∧W.cell? ⟨b,o+k*2+1,none⟩=some (.int .i64 r.y)):=⟨h.cells hp,h.cells hq,h.cells hr⟩
theorem as_fun {n:Nat} (xs:List Value) (h:xs.length=n):(List.range n).map (fun i=>xs.getD i undef)=xs:=by
 apply List.ext_getElem
 ·simp[h]
 ·intro i h1 h2
  simp[List.getD,List.getElem?_eq_getElem h2]
def hO_ (v:Nat→Value):List Value:=[v 0,v 1,v 2,v 3,v 4,v 5,v 6,v 7,v 8,v 9,v 10,v 11,v 12,v 13,v 14,v 15,v 16,v 17,v 18,v 19,v 20,v 21,v 22,v 23,v 24,v 25,v 26,v 27,v 28,v 29,v 30,v 31,v 32,v 33,v 34,v 35,v 36,v 37,v 38,v 39,v 40,v 41,v 42,v 43,v 44,v 45,v 46,v 47,v 48,v 49,v 50,v 51,v 52,v 53,v 54,v 55,v 56,v 57,v 58,v 59,v 60,v 61,v 62,v 63,v 64,v 65,v 66,v 67,v 68,v 69,v 70,v 71,v 72,v 73,v 74,v 75,v 76,v 77,v 78,v 79,v 80,v 81,v 82,v 83,v 84,v 85,v 86,v 87,v 88,v 89,v 90,v 91,v 92,v 93,v 94,v 95,v 96,v 97,v 98,v 99,v 100,v 101,v 102,v 103,v 104,v 105,v 106,v 107,v 108,v 109,v 110,v 111,v 112,v 113,v 114,v 115,v 116,v 117,v 118,v 119,v 120,v 121,v 122,v 123,v 124,v 125,v 126,v 127,v 128,v 129,v 130,v 131,v 132,v 133,v 134,v 135,v 136,v 137,v 138,v 139,v 140,v 141,v 142,v 143,v 144,v 145,v 146,v 147,v 148,v 149,v 150,v 151,v 152,v 153,v 154,v 155,v 156,v 157,v 158,v 159,v 160,v 161,v 162,v 163,v 164,v 165,v 166,v 167,v 168,v 169,v 170,v 171,v 172,v 173,v 174,v 175,v 176,v 177,v 178,v 179,v 180,v 181,v 182,v 183,v 184,v 185,v 186,v 187,v 188,v 189,v 190,v 191,v 192,v 193,v 194,v 195,v 196,v 197,v 198,v 199,v 200,v 201,v 202,v 203,v 204,v 205,v 206,v 207,v 208,v 209,v 210,v 211,v 212,v 213,v 214,v 215,v 216,v 217,v 218,v 219,v 220,v 221,v 222,v 223,v 224,v 225,v 226,v 227,v 228,v 229,v 230,v 231,v 232,v 233,v 234,v 235,v 236,v 237,v 238,v 239,v 240,v 241,v 242,v 243,v 244,v 245,v 246,v 247,v 248,v 249,v 250,v 251,v 252,v 253,v 254,v 255,v 256,v 257,v 258,v 259,v 260,v 261,v 262,v 263,v 264,v 265,v 266,v 267,v 268,v 269,v 270,v 271,v 272,v 273,v 274,v 275,v 276,v 277,v 278,v 279,v 280,v 281,v 282,v 283,v 284,v 285,v 286,v 287,v 288,v 289,v 290,v 291,v 292,v 293,v 294,v 295,v 296,v 297,v 298,v 299,v 300,v 301,v 302,v 303,v 304,v 305,v 306,v 307,v 308,v 309,v 310,v 311,v 312,v 313,v 314,v 315,v 316,v 317,v 318,v 319,v 320,v 321,v 322,v 323,v 324,v 325,v 326,v 327,v 328,v 329,v 330,v 331,v 332,v 333,v 334,v 335,v 336,v 337,v 338,v 339,v 340,v 341,v 342,v 343,v 344,v 345,v 346,v 347,v 348,v 349,v 350,v 351,v 352,v 353,v 354,v 355,v 356,v 357,v 358,v 359,v 360,v 361,v 362,v 363,v 364,v 365,v 366,v 367,v 368,v 369,v 370,v 371,v 372,v 373]
theorem eD_ (xs:List Value) (h:xs.length=374):∃v:Nat→Value,xs=hO_ v∧∀i,i<374→xs[i]?=Option.some (v i):=
 ⟨fun i=>xs.getD i undef,(as_fun xs h).symm.trans rfl,fun i hi=>by simp[List.getD,List.getElem?_eq_getElem (show i<xs.length by omega)]⟩
def regL (k:Nat):Code→Option Code
 | .region i o d=>if i=k then some (.region i o d) else none
 | .loop c=>regL k c
 | .seq a b=>(regL k a).or (regL k b)
 | .cond _ a b=>(regL k a).or (regL k b)
 | .block _ c=>regL k c
 | .scope c=>regL k c
 | _=>none
noncomputable def regN (k:Nat):Code:=(regL k (Tryz.f3.body.getD .skip)).getD .skip
noncomputable def opsN (k:Nat):Array Oper:=match regN k with | .region _ o _=>o|_=>#[]
theorem aPI:Region.noSelect (opsN 41)=true:=by kernel_rfl
theorem aPH:(opsN 41).size=97:=by kernel_rfl
theorem aPS:lexK .any (opsN 41) 0 10=true:=by kernel_rfl
theorem aPR:lexK .any (opsN 41) 10 10=true:=by kernel_rfl
theorem aPQ:lexK .any (opsN 41) 20 10=true:=by kernel_rfl
theorem aPP:lexK .any (opsN 41) 30 10=true:=by kernel_rfl
theorem aPO:lexK .any (opsN 41) 40 10=true:=by kernel_rfl
theorem aPN:lexK .any (opsN 41) 50 10=true:=by kernel_rfl
theorem aPM:lexK .any (opsN 41) 60 10=true:=by kernel_rfl
theorem aPL:lexK .any (opsN 41) 70 10=true:=by kernel_rfl
theorem aPK:lexK .any (opsN 41) 80 10=true:=by kernel_rfl
theorem aPJ:lexK .any (opsN 41) 90 10=true:=by kernel_rfl
theorem lex41:Region.lexB .any (opsN 41)=true:=aPG aPI fun k hk=>by
 rw[aPH] at hk
 obtain⟨i,hi,h1,h2⟩:∃i,i<10∧10*i≤k∧k<10*i+10:=⟨k/10,by omega,by omega,by omega⟩
 have h:lexK .any (opsN 41) (10*i) 10=true:=by
  obtain rfl|rfl|rfl|rfl|rfl|rfl|rfl|rfl|rfl|rfl:i=0∨i=1∨i=2∨i=3∨i=4∨i=5∨i=6∨i=7∨i=8∨i=9:=by omega
  ·exact aPS
  ·exact aPR
  ·exact aPQ
  ·exact aPP
  ·exact aPO
  ·exact aPN
  ·exact aPM
  ·exact aPL
  ·exact aPK
  ·exact aPJ
 exact aKC h h1 h2
theorem rg39 {wr:World} {b2 of2 n2 c2 t:Nat} {ps:List Pl} {p0 p1 p2 p3:Pl} (xs:List Value) (hl:xs.length=374) (ht:t≤8) (_h41:n2≤41) (hlt:t+3<n2) (HQ:Hid (PtAt (Option.some ⟨b2,of2,none⟩) ps wr)) (HP:Hid (ps[t]?=Option.some p0∧ps[t+1]?=Option.some p1∧ps[t+2]?=Option.some p2∧ps[t+3]?=Option.some p3)) (h19:xs[19]?=Option.some (.slice (Option.some ⟨b2,of2,none⟩) n2 c2)) (h40:xs[40]?=Option.some (.int .i64 (t:Int))) (HI:Hid (IOps wr∧FrOp wr)) (Q0:Exit→Act→World→Prop)
  (hend:∀(ys:List Value) (X41:Nat) (W:World),ys.length=374→(ys[8]?=xs[8]?∧ys[10]?=xs[10]?∧ys[15]?=xs[15]?∧ys[19]?=xs[19]?∧ys[40]?=xs[40]?∧ys[121]?=xs[121]?∧ys[122]?=xs[122]?∧ys[123]?=xs[123]?)→ys[41]?=Option.some (.pointer (Option.some ⟨X41,0,none⟩))→ys[42]?=Option.some (.int .i64 (edX p0 p1 p2))→AzAt [(X41,[.string (qN (diX p0 p1 p2)),.string (qD (diX p0 p1 p2))])] wr W→Q0 .normal ⟨ys.toArray,[]⟩ W) :
  (regN 39).wp Tryz.prog Q0 ⟨xs.toArray,[]⟩ wr:=by
 obtain⟨t1,ht1⟩:∃t1,t1=t+1:=⟨_,rfl⟩
 obtain⟨t2,ht2⟩:∃t2,t2=t+2:=⟨_,rfl⟩
 obtain⟨t3,ht3⟩:∃t3,t3=t+3:=⟨_,rfl⟩
 have w1:IntKind.i64.wrap ((t:Int)+1)=(t1:Int):=by rw[IntWalk.i64_in _ (by omega)];omega
 have w2:IntKind.i64.wrap ((t:Int)+2)=(t2:Int):=by rw[IntWalk.i64_in _ (by omega)];omega
 have w3:IntKind.i64.wrap ((t:Int)+3)=(t3:Int):=by rw[IntWalk.i64_in _ (by omega)];omega
 have k0:(0:Int)≤(t:Int):=by omega
 have k1:(0:Int)≤(t1:Int):=by omega
 have k2:(0:Int)≤(t2:Int):=by omega
 have k3:(0:Int)≤(t3:Int):=by omega
 have l0:(t:Int)<(n2:Int):=by omega
 have l1:(t1:Int)<(n2:Int):=by omega
 have l2:(t2:Int)<(n2:Int):=by omega
 have l3:(t3:Int)<(n2:Int):=by omega
 have HPL:=hid (show ps[t]?=Option.some p0∧ps[t1]?=Option.some p1∧ps[t2]?=Option.some p2∧ps[t3]?=Option.some p3 from by rw[ht1,ht2,ht3];exact HP.out)
 have HEND:=hid hend
 clear ht1 ht2 ht3 HP hend hlt
 obtain⟨v,hv,hvv⟩:=eD_ xs hl
 subst hv
 have HVV:=hid hvv
 have s19:=Option.some.inj ((hvv 19 (by omega)).symm.trans h19)
 have s40:=Option.some.inj ((hvv 40 (by omega)).symm.trans h40)
 have H19:=hid h19
 have H40:=hid h40
 clear hvv h19 h40 hl
 unfold hO_
 rw[s19,s40]
 clear s19 s40
 unfold regN
 conv=>arg 2;whnf
 dsimp only
 have H0:=hid (AzAt.start wr)
 have C1:=hid (fun(W:World) (hb:Below wr.heap.size wr W)=>dist_u p0 p1 p2 (HI.out.1.below hb) (HI.out.2.below hb))
 generalize qN (diX p0 p1 p2)=dn at C1 HEND
 generalize qD (diX p0 p1 p2)=dd at C1 HEND
 generalize edX p0 p1 p2=ed at C1 HEND
 clear w3
 first|(go_region_held3 (fun W=>(W.cell? ⟨b2,of2+t*2,none⟩=Option.some (.int .i64 p0.x)∧W.cell? ⟨b2,of2+t*2+1,none⟩=Option.some (.int .i64 p0.y))∧(W.cell? ⟨b2,of2+t1*2,none⟩=Option.some (.int .i64 p1.x)∧W.cell? ⟨b2,of2+t1*2+1,none⟩=Option.some (.int .i64 p1.y))∧(W.cell? ⟨b2,of2+t2*2,none⟩=Option.some (.int .i64 p2.x)∧W.cell? ⟨b2,of2+t2*2+1,none⟩=Option.some (.int .i64 p2.y))) (first|with_reducible exact bQ_ (HQ.out.below (H0.out.drew.bw)) HPL.out.1 HPL.out.2.1 HPL.out.2.2.1|with_reducible exact bQ_ (HQ.out.below (((H0.out.push [.string ⟨#[]⟩,.string ⟨#[]⟩] 47).drew).bw)) HPL.out.1 HPL.out.2.1 HPL.out.2.2.1|with_reducible exact bQ_ (HQ.out.below (H1.out.bw)) HPL.out.1 HPL.out.2.1 HPL.out.2.2.1|with_reducible exact bQ_ (HQ.out.below ((H1.out.push [.string ⟨#[]⟩,.string ⟨#[]⟩] 47).bw)) HPL.out.1 HPL.out.2.1 HPL.out.2.2.1|with_reducible exact bQ_ (HQ.out.below ((H1.out.push [.string dn,.string dd] 47).bw)) HPL.out.1 HPL.out.2.1 HPL.out.2.2.1|with_reducible exact bQ_ (HQ.out.below (H1b.out.bw)) HPL.out.1 HPL.out.2.1 HPL.out.2.2.1|with_reducible exact bQ_ (HQ.out.below ((H1b.out.set2 (Nat.le_refl _) (by simp) (.string dn) (.string dd)).bw)) HPL.out.1 HPL.out.2.1 HPL.out.2.2.1) (first
  | (go_at_call 23;(with_reducible refine(C1.out _ H0.out.drew.bw).mono ?_);rintro e u1 ⟨rfl,hb⟩;have H1:=hid (H0.out.drew.below hb);clear hb)
  | (go_at_call 23;(with_reducible refine(C1.out _ ((H0.out.push [.string ⟨#[]⟩,.string ⟨#[]⟩] 47).drew).bw).mono ?_);rintro e u1 ⟨rfl,hb⟩;have H1b:=hid (((H0.out.push [.string ⟨#[]⟩,.string ⟨#[]⟩] 47).drew).below hb);clear hb;have h_:=H1b.out.row (wr.heap.size,[.string ⟨#[]⟩,.string ⟨#[]⟩]) (by simp);have zz0:=h_.row 0 _ rfl;have zz1:=h_.row 1 _ rfl;have zf0:=h_.fz 0 (by simp);have zf1:=h_.fz 1 (by simp);clear h_)
  | fail)) | fail
 all_goals
  go_wp2
  first|(have _:=H1;refine HEND.out _ _ _ ?_ ?_ ?_ ?_ (H1.out.push [.string dn,.string dd] 47))|(have _:=H1b;refine HEND.out _ _ _ ?_ ?_ ?_ ?_ (H1b.out.set2 (Nat.le_refl _) (by simp) (.string dn) (.string dd)))
  ·rfl
  ·exact⟨(HVV.out 8 (by omega)).symm,(HVV.out 10 (by omega)).symm,(HVV.out 15 (by omega)).symm,H19.out.symm,H40.out.symm,(HVV.out 121 (by omega)).symm,(HVV.out 122 (by omega)).symm,(HVV.out 123 (by omega)).symm⟩
  ·rfl
  ·rfl
theorem rg40 {wr wx:World} {b2 of2 n2 c2 t:Nat} {ps:List Pl} {p0 p1 p2 p3:Pl} (xs:List Value) (hl:xs.length=374) (ht:t≤8) (_h41:n2≤41) (hlt:t+3<n2) (HQ:Hid (PtAt (Option.some ⟨b2,of2,none⟩) ps wr)) (HP:Hid (ps[t]?=Option.some p0∧ps[t+1]?=Option.some p1∧ps[t+2]?=Option.some p2∧ps[t+3]?=Option.some p3)) (h19:xs[19]?=Option.some (.slice (Option.some ⟨b2,of2,none⟩) n2 c2)) (h40:xs[40]?=Option.some (.int .i64 (t:Int))) {X41:Nat} (h41':xs[41]?=Option.some (.pointer (Option.some ⟨X41,0,none⟩))) (h42:xs[42]?=Option.some (.int .i64 (edX p0 p1 p2))) (H3:Hid (AzAt [(X41,[.string (qN (diX p0 p1 p2)),.string (qD (diX p0 p1 p2))])] wr wx)) (Q0:Exit→Act→World→Prop)
  (hend:∀(ys:List Value) (X43:Nat) (W:World),ys.length=374→(ys[8]?=xs[8]?∧ys[10]?=xs[10]?∧ys[15]?=xs[15]?∧ys[19]?=xs[19]?∧ys[40]?=xs[40]?∧ys[121]?=xs[121]?∧ys[122]?=xs[122]?∧ys[123]?=xs[123]?∧ys[41]?=xs[41]?∧ys[42]?=xs[42]?)→ys[43]?=Option.some (.pointer (Option.some ⟨X43,0,none⟩))→ys[44]?=Option.some (.int .i64 (edX p0 p1 p2))→AzAt [(X43,[.string (qN (diX p0 p1 p2)),.string (qD (diX p0 p1 p2))]),(X41,[.string (qN (diX p0 p1 p2)),.string (qD (diX p0 p1 p2))])] wr W→Q0 .normal ⟨ys.toArray,[]⟩ W) :
  (regN 40).wp Tryz.prog Q0 ⟨xs.toArray,[]⟩ wx:=by
 obtain⟨t1,ht1⟩:∃t1,t1=t+1:=⟨_,rfl⟩
 obtain⟨t2,ht2⟩:∃t2,t2=t+2:=⟨_,rfl⟩
 obtain⟨t3,ht3⟩:∃t3,t3=t+3:=⟨_,rfl⟩
 have w1:IntKind.i64.wrap ((t:Int)+1)=(t1:Int):=by rw[IntWalk.i64_in _ (by omega)];omega
 have w2:IntKind.i64.wrap ((t:Int)+2)=(t2:Int):=by rw[IntWalk.i64_in _ (by omega)];omega
 have w3:IntKind.i64.wrap ((t:Int)+3)=(t3:Int):=by rw[IntWalk.i64_in _ (by omega)];omega
 have k0:(0:Int)≤(t:Int):=by omega
 have k1:(0:Int)≤(t1:Int):=by omega
 have k2:(0:Int)≤(t2:Int):=by omega
 have k3:(0:Int)≤(t3:Int):=by omega
 have l0:(t:Int)<(n2:Int):=by omega
 have l1:(t1:Int)<(n2:Int):=by omega
 have l2:(t2:Int)<(n2:Int):=by omega
 have l3:(t3:Int)<(n2:Int):=by omega
 have HPL:=hid (show ps[t]?=Option.some p0∧ps[t1]?=Option.some p1∧ps[t2]?=Option.some p2∧ps[t3]?=Option.some p3 from by rw[ht1,ht2,ht3];exact HP.out)
 have HEND:=hid hend
 clear ht1 ht2 ht3 HP hend hlt
 obtain⟨v,hv,hvv⟩:=eD_ xs hl
 subst hv
 have HVV:=hid hvv
 have s19:=Option.some.inj ((hvv 19 (by omega)).symm.trans h19)
 have s40:=Option.some.inj ((hvv 40 (by omega)).symm.trans h40)
 have H19:=hid h19
 have H40:=hid h40
 have s41:=Option.some.inj ((hvv 41 (by omega)).symm.trans h41')
 have H41:=hid h41'
 have s42:=Option.some.inj ((hvv 42 (by omega)).symm.trans h42)
 have H42:=hid h42
 clear h41'
 clear h42
 clear hvv h19 h40 hl
 unfold hO_
 rw[s19,s40,s41,s42]
 clear s19 s40 s41 s42
 unfold regN
 conv=>arg 2;whnf
 dsimp only
 have HNE:=hid (show ∀x∈([(X41,[.string (qN (diX p0 p1 p2)),.string (qD (diX p0 p1 p2))])]:List (Nat×List Value)),wx.heap.size≠x.1 from fun x hx=>Nat.ne_of_gt (H3.out.row x hx).sz)
 have C2:=hid (fun(W:World)=>aQL p0 p1 p2 W)
 generalize qN (diX p0 p1 p2)=dn at C2 HEND H3 HNE
 generalize qD (diX p0 p1 p2)=dd at C2 HEND H3 HNE
 generalize edX p0 p1 p2=ed at C2 HEND H42
 clear w3
 first|(go_region_held3 (fun W=>(W.cell? ⟨b2,of2+t*2,none⟩=Option.some (.int .i64 p0.x)∧W.cell? ⟨b2,of2+t*2+1,none⟩=Option.some (.int .i64 p0.y))∧(W.cell? ⟨b2,of2+t1*2,none⟩=Option.some (.int .i64 p1.x)∧W.cell? ⟨b2,of2+t1*2+1,none⟩=Option.some (.int .i64 p1.y))∧(W.cell? ⟨b2,of2+t2*2,none⟩=Option.some (.int .i64 p2.x)∧W.cell? ⟨b2,of2+t2*2+1,none⟩=Option.some (.int .i64 p2.y))) (first|with_reducible exact bQ_ (HQ.out.below (H3.out.drew.bw)) HPL.out.1 HPL.out.2.1 HPL.out.2.2.1|with_reducible exact bQ_ (HQ.out.below (((H3.out.push [.string ⟨#[]⟩,.string ⟨#[]⟩] 47).drew).bw)) HPL.out.1 HPL.out.2.1 HPL.out.2.2.1|with_reducible exact bQ_ (HQ.out.below (H4.out.bw)) HPL.out.1 HPL.out.2.1 HPL.out.2.2.1|with_reducible exact bQ_ (HQ.out.below ((H4.out.push [.string ⟨#[]⟩,.string ⟨#[]⟩] 47).bw)) HPL.out.1 HPL.out.2.1 HPL.out.2.2.1|with_reducible exact bQ_ (HQ.out.below ((H4.out.push [.string dn,.string dd] 47).bw)) HPL.out.1 HPL.out.2.1 HPL.out.2.2.1|with_reducible exact bQ_ (HQ.out.below (H4b.out.bw)) HPL.out.1 HPL.out.2.1 HPL.out.2.2.1|with_reducible exact bQ_ (HQ.out.below ((H4b.out.set2 H3.out.bw.size (fun x hx=>HNE.out x hx) (.string dn) (.string dd)).bw)) HPL.out.1 HPL.out.2.1 HPL.out.2.2.1) (first
  | (go_at_call 24;(with_reducible refine(C2.out _).mono ?_);rintro e u4 ⟨rfl,hb⟩;have H4:=hid (H3.out.drew.below hb);clear hb)
  | (go_at_call 24;(with_reducible refine(C2.out _).mono ?_);rintro e u4 ⟨rfl,hb⟩;have H4b:=hid (((H3.out.push [.string ⟨#[]⟩,.string ⟨#[]⟩] 47).drew).below hb);clear hb;have h_:=H4b.out.row (wx.heap.size,[.string ⟨#[]⟩,.string ⟨#[]⟩]) (by simp);have zz0:=h_.row 0 _ rfl;have zz1:=h_.row 1 _ rfl;have zf0:=h_.fz 0 (by simp);have zf1:=h_.fz 1 (by simp);clear h_)
  | fail)) | fail
 all_goals
  go_wp2
  first|(have _:=H4;refine HEND.out _ _ _ ?_ ?_ ?_ ?_ (H4.out.push [.string dn,.string dd] 47))|(have _:=H4b;refine HEND.out _ _ _ ?_ ?_ ?_ ?_ (H4b.out.set2 H3.out.bw.size (fun x hx=>HNE.out x hx) (.string dn) (.string dd)))
  ·rfl
  ·exact⟨(HVV.out 8 (by omega)).symm,(HVV.out 10 (by omega)).symm,(HVV.out 15 (by omega)).symm,H19.out.symm,H40.out.symm,(HVV.out 121 (by omega)).symm,(HVV.out 122 (by omega)).symm,(HVV.out 123 (by omega)).symm,H41.out.symm,H42.out.symm⟩
  ·rfl
  ·rfl
theorem rg41 {wr wx:World} {b2 of2 n2 c2 t:Nat} {ps:List Pl} {p0 p1 p2 p3:Pl} (xs:List Value) (hl:xs.length=374) (ht:t≤8) (_h41:n2≤41) (hlt:t+3<n2) (HQ:Hid (PtAt (Option.some ⟨b2,of2,none⟩) ps wr)) (HP:Hid (ps[t]?=Option.some p0∧ps[t+1]?=Option.some p1∧ps[t+2]?=Option.some p2∧ps[t+3]?=Option.some p3)) (h19:xs[19]?=Option.some (.slice (Option.some ⟨b2,of2,none⟩) n2 c2)) (h40:xs[40]?=Option.some (.int .i64 (t:Int))) {X41 X43:Nat} (h41':xs[41]?=Option.some (.pointer (Option.some ⟨X41,0,none⟩))) (h42:xs[42]?=Option.some (.int .i64 (edX p0 p1 p2))) (h43:xs[43]?=Option.some (.pointer (Option.some ⟨X43,0,none⟩))) (h44:xs[44]?=Option.some (.int .i64 (edX p0 p1 p2))) (H5:Hid (AzAt [(X43,[.string (qN (diX p0 p1 p2)),.string (qD (diX p0 p1 p2))]),(X41,[.string (qN (diX p0 p1 p2)),.string (qD (diX p0 p1 p2))])] wr wx)) (Q0:Exit→Act→World→Prop)
  (hend:∀(ys:List Value) (W:World),ys.length=374→(ys[8]?=xs[8]?∧ys[10]?=xs[10]?∧ys[15]?=xs[15]?∧ys[19]?=xs[19]?∧ys[40]?=xs[40]?∧ys[121]?=xs[121]?∧ys[122]?=xs[122]?∧ys[123]?=xs[123]?)→ys[367]?=Option.some (.bool false)→Below wr.heap.size wr W→Q0 .normal ⟨ys.toArray,[]⟩ W) :
  (regN 41).wp Tryz.prog Q0 ⟨xs.toArray,[]⟩ wx:=by
 obtain⟨t1,ht1⟩:∃t1,t1=t+1:=⟨_,rfl⟩
 obtain⟨t2,ht2⟩:∃t2,t2=t+2:=⟨_,rfl⟩
 obtain⟨t3,ht3⟩:∃t3,t3=t+3:=⟨_,rfl⟩
 have w1:IntKind.i64.wrap ((t:Int)+1)=(t1:Int):=by rw[IntWalk.i64_in _ (by omega)];omega
 have w2:IntKind.i64.wrap ((t:Int)+2)=(t2:Int):=by rw[IntWalk.i64_in _ (by omega)];omega
 have w3:IntKind.i64.wrap ((t:Int)+3)=(t3:Int):=by rw[IntWalk.i64_in _ (by omega)];omega
 have k0:(0:Int)≤(t:Int):=by omega
 have k1:(0:Int)≤(t1:Int):=by omega
 have k2:(0:Int)≤(t2:Int):=by omega
 have k3:(0:Int)≤(t3:Int):=by omega
 have l0:(t:Int)<(n2:Int):=by omega
 have l1:(t1:Int)<(n2:Int):=by omega
 have l2:(t2:Int)<(n2:Int):=by omega
 have l3:(t3:Int)<(n2:Int):=by omega
 have HPL:=hid (show ps[t]?=Option.some p0∧ps[t1]?=Option.some p1∧ps[t2]?=Option.some p2∧ps[t3]?=Option.some p3 from by rw[ht1,ht2,ht3];exact HP.out)
 have HEND:=hid hend
 clear ht1 ht2 ht3 HP hend hlt
 obtain⟨v,hv,hvv⟩:=eD_ xs hl
 subst hv
 have HVV:=hid hvv
 have s19:=Option.some.inj ((hvv 19 (by omega)).symm.trans h19)
 have s40:=Option.some.inj ((hvv 40 (by omega)).symm.trans h40)
 have H19:=hid h19
 have H40:=hid h40
 have s41:=Option.some.inj ((hvv 41 (by omega)).symm.trans h41')
 have H41:=hid h41'
 have s42:=Option.some.inj ((hvv 42 (by omega)).symm.trans h42)
 have H42:=hid h42
 have s43:=Option.some.inj ((hvv 43 (by omega)).symm.trans h43)
 have H43:=hid h43
 have s44:=Option.some.inj ((hvv 44 (by omega)).symm.trans h44)
 have H44:=hid h44
 clear h41'
 clear h42
 clear h43
 clear h44
 clear hvv h19 h40 hl
 unfold hO_
 rw[s19,s40,s41,s42,s43,s44]
 clear s19 s40 s41 s42 s43 s44
 unfold regN
 conv=>arg 2;whnf
 dsimp only
 generalize qN (diX p0 p1 p2)=dn at H5
 generalize qD (diX p0 p1 p2)=dd at H5
 generalize edX p0 p1 p2=ed at H42 H44⊢
 have hp:=HQ.out.below H5.out.bw
 obtain⟨v0,v0'⟩:=hp.cells HPL.out.1
 have x0:=cell_regrown v0
 have x0':=cell_regrown v0'
 obtain⟨v1,v1'⟩:=hp.cells HPL.out.2.1
 have x1:=cell_regrown v1
 have x1':=cell_regrown v1'
 obtain⟨v2,v2'⟩:=hp.cells HPL.out.2.2.1
 have x2:=cell_regrown v2
 have x2':=cell_regrown v2'
 obtain⟨v3,v3'⟩:=hp.cells HPL.out.2.2.2
 have x3:=cell_regrown v3
 have x3':=cell_regrown v3'
 have h_:=H5.out.at (B:=X41) (l:=[.string dn,.string dd]) (by simp)
 have r0:=cell_regrown (h_.row 0 _ rfl)
 have r1:=cell_regrown (h_.row 1 _ rfl)
 clear h_
 have h_:=H5.out.at (B:=X43) (l:=[.string dn,.string dd]) (by simp)
 have r2:=cell_regrown (h_.row 0 _ rfl)
 have r3:=cell_regrown (h_.row 1 _ rfl)
 clear h_
 have c0:=fun d os=>Calls.regrown_of (d:=d) (os:=os) (qQ_ p0 p1 p2 (grow (redrawn wx d) os))
 have c1:=fun d os=>Calls.regrown_of (d:=d) (os:=os) (side_r p0 p1 p2 (grow (redrawn wx d) os))
 have c2:=fun d os=>Calls.regrown_of (d:=d) (os:=os) (yB_ p0 p1 p2 p3 (grow (redrawn wx d) os))
 have c3:=fun d os=>Calls.regrown_of (d:=d) (os:=os) (aQT p0 p1 p2 p3 (grow (redrawn wx d) os))
 have c4:=fun d os=>Calls.regrown_of (d:=d) (os:=os) (iI_ p0 (grow (redrawn wx d) os))
 have c5:=fun d os=>Calls.regrown_of (d:=d) (os:=os) (mU_ p0 (grow (redrawn wx d) os))
 generalize dH_ p0 p1 p2=sd at c0 c1
 generalize cX_ p0 p1 p2 p3=cr at c2 c3
 generalize vP p0=bv at c4 c5
 have e2:(ed != ed)=false:=by simp
 have e3:(sd != sd)=false:=by simp
 have e4:(cr != cr)=false:=by simp
 have e5:(bv != bv)=false:=by simp
 clear hp v0 v0' v1 v1' v2 v2' v3 v3'
 simp only[List.append_eq,List.cons_append,List.nil_append]
 refine wp_region_quiet_below (by kernel_rfl) lex41 ?_
 repeat (go_big_quiet_step (with_reducible first|exact c0 _ _|exact c1 _ _|exact c2 _ _|exact c3 _ _|exact c4 _ _|exact c5 _ _))
 refine wpQuiet_nil ?_
 intro W41 hw41
 have hb41:Below wx.heap.size wx W41:=by obtain⟨⟨dq,osq⟩,hw7⟩:=hw41;rw[hw7];exact below_regrown wx dq osq
 refine HEND.out _ _ ?_ ?_ ?_ (H5.out.bw.trans (hb41.mono H5.out.bw.size))
 ·rfl
 ·exact⟨(HVV.out 8 (by omega)).symm,(HVV.out 10 (by omega)).symm,(HVV.out 15 (by omega)).symm,H19.out.symm,H40.out.symm,(HVV.out 121 (by omega)).symm,(HVV.out 122 (by omega)).symm,(HVV.out 123 (by omega)).symm⟩
 ·rfl
theorem round5 {wr:World} {a2:Option Addr} {n2 c2 t:Nat} {ps:List Pl} (v:Nat→Value) (HI:Hid (IOps wr∧FrOp wr)) (HNP:Hid (ps.length=n2)) (h41:n2≤41) (ht:t≤8) (HQ:Hid (PtAt a2 ps wr)) (h19:v 19=.slice a2 n2 c2) (h40:v 40=.int .i64 (t:Int)) (hlt:t+3<n2) (h8:t<8) (Q0:Exit→Act→World→Prop)
  (hend:∀(ys:List Value) (W:World),ys.length=374→(ys[8]?=Option.some (v 8)∧ys[10]?=Option.some (v 10)∧ys[15]?=Option.some (v 15)∧ys[19]?=Option.some (v 19)∧ys[121]?=Option.some (v 121)∧ys[122]?=Option.some (v 122)∧ys[123]?=Option.some (v 123))→ys[40]?=Option.some (.int .i64 ((t:Int)+1))→Below wr.heap.size wr W→Q0 .normal ⟨ys.toArray,[]⟩ W) :
  (mS_ 4).wp Tryz.prog Q0 ⟨(hO_ v).toArray,[]⟩ wr:=by
 obtain⟨p0,hp0⟩:∃p,ps[t]?=Option.some p:=⟨ps[t]'(by have:=HNP.out;omega),List.getElem?_eq_getElem _⟩
 obtain⟨p1,hp1⟩:∃p,ps[t+1]?=Option.some p:=⟨ps[t+1]'(by have:=HNP.out;omega),List.getElem?_eq_getElem _⟩
 obtain⟨p2,hp2⟩:∃p,ps[t+2]?=Option.some p:=⟨ps[t+2]'(by have:=HNP.out;omega),List.getElem?_eq_getElem _⟩
 obtain⟨p3,hp3⟩:∃p,ps[t+3]?=Option.some p:=⟨ps[t+3]'(by have:=HNP.out;omega),List.getElem?_eq_getElem _⟩
 have HP:=hid (And.intro hp0 (And.intro hp1 (And.intro hp2 hp3)))
 obtain⟨b2,of2,hab⟩:=HQ.out.some (by have:=HNP.out;omega)
 subst hab
 have w3:IntKind.i64.wrap ((t:Int)+3)=((t:Int)+3):=IntWalk.i64_in _ (by omega)
 have d3:decide ((t:Int)+3<(n2:Int))=true:=decide_eq_true (by omega)
 have d3':((t:Int)+3<(n2:Int)):=by omega
 have d8:decide ((t:Int)<8)=true:=decide_eq_true (by omega)
 have gt:IntKind.i64.wrap ((t:Int)+1)=(t:Int)+1:=IntWalk.i64_in _ (by omega)
 have HEND:=hid hend
 clear hend hp0 hp1 hp2 hp3
 have HVV:=hid (And.intro h19 h40)
 unfold mS_ hO_
 conv=>arg 2;whnf
 dsimp only
 go_wp2
 refine rg39 (c2:=c2) _ ?l39 ht h41 hlt HQ HP ?a19 ?a40 HI _ ?e39
 case l39=>rfl
 case a19=>first|rfl|exact congrArg Option.some HVV.out.1
 case a40=>first|rfl|exact congrArg Option.some HVV.out.2
 case e39=>
  intro ys X41 W hyl hy hy41 hy42 hA
  have HA:=hid hA
  obtain⟨u,hu',huu⟩:=eD_ ys hyl
  rw[hu']
  unfold hO_
  dsimp only
  go_wp2
  refine rg40 (c2:=c2) _ ?l40 ht h41 hlt HQ HP ?b19 ?b40 ?b41 ?b42 HA _ ?e40
  case l40=>rfl
  case b19=>exact(huu 19 (by omega)).symm.trans ((hy.2.2.2.1).trans (by first|rfl|exact congrArg Option.some HVV.out.1))
  case b40=>exact(huu 40 (by omega)).symm.trans ((hy.2.2.2.2.1).trans (by first|rfl|exact congrArg Option.some HVV.out.2))
  case b41=>exact(huu 41 (by omega)).symm.trans hy41
  case b42=>exact(huu 42 (by omega)).symm.trans hy42
  case e40=>
   intro zs X43 W2 hzl hz hz43 hz44 hA2
   have hz:(zs[8]?=ys[8]?∧zs[10]?=ys[10]?∧zs[15]?=ys[15]?∧zs[19]?=ys[19]?∧zs[40]?=ys[40]?∧zs[121]?=ys[121]?∧zs[122]?=ys[122]?∧zs[123]?=ys[123]?∧zs[41]?=ys[41]?∧zs[42]?=ys[42]?):=by rw[hu'];exact hz
   have HA2:=hid hA2
   obtain⟨r,hr',hrr⟩:=eD_ zs hzl
   rw[hr']
   unfold hO_
   dsimp only
   go_wp2
   have e19:zs[19]?=Option.some (.slice (Option.some ⟨b2,of2,none⟩) n2 c2):=(hz.2.2.2.1).trans ((hy.2.2.2.1).trans (by first|rfl|exact congrArg Option.some HVV.out.1))
   have e40:zs[40]?=Option.some (.int .i64 (t:Int)):=(hz.2.2.2.2.1).trans ((hy.2.2.2.2.1).trans (by first|rfl|exact congrArg Option.some HVV.out.2))
   refine rg41 (c2:=c2) _ ?l41 ht h41 hlt HQ HP ?d19 ?d40 ?d41 ?d42 ?d43 ?d44 HA2 _ ?e41
   case l41=>rfl
   case d19=>exact(hrr 19 (by omega)).symm.trans e19
   case d40=>exact(hrr 40 (by omega)).symm.trans e40
   case d41=>exact(hrr 41 (by omega)).symm.trans ((hz.2.2.2.2.2.2.2.2.1).trans hy41)
   case d42=>exact(hrr 42 (by omega)).symm.trans ((hz.2.2.2.2.2.2.2.2.2).trans hy42)
   case d43=>exact(hrr 43 (by omega)).symm.trans hz43
   case d44=>exact(hrr 44 (by omega)).symm.trans hz44
   case e41=>
    intro us W3 hul hu hu367 hb3
    have hu:(us[8]?=zs[8]?∧us[10]?=zs[10]?∧us[15]?=zs[15]?∧us[19]?=zs[19]?∧us[40]?=zs[40]?∧us[121]?=zs[121]?∧us[122]?=zs[122]?∧us[123]?=zs[123]?):=by rw[hr'];exact hu
    have HB3:=hid hb3
    obtain⟨q,hq',hqq⟩:=eD_ us hul
    have q367:=Option.some.inj ((hqq 367 (by omega)).symm.trans hu367)
    have q40:=Option.some.inj ((hqq 40 (by omega)).symm.trans ((hu.2.2.2.2.1).trans e40))
    rw[hq']
    unfold hO_
    rw[q367,q40]
    dsimp only
    go_wp2
    refine HEND.out _ _ ?_ ?_ ?_ HB3.out
    ·rfl
    ·exact⟨(hqq 8 (by omega)).symm.trans ((hu.1).trans ((hz.1).trans ((hy.1).trans (by first|rfl|exact congrArg Option.some HVV.out.1|exact congrArg Option.some HVV.out.1.symm)))),(hqq 10 (by omega)).symm.trans ((hu.2.1).trans ((hz.2.1).trans ((hy.2.1).trans (by first|rfl|exact congrArg Option.some HVV.out.1|exact congrArg Option.some HVV.out.1.symm)))),(hqq 15 (by omega)).symm.trans ((hu.2.2.1).trans ((hz.2.2.1).trans ((hy.2.2.1).trans (by first|rfl|exact congrArg Option.some HVV.out.1|exact congrArg Option.some HVV.out.1.symm)))),(hqq 19 (by omega)).symm.trans ((hu.2.2.2.1).trans ((hz.2.2.2.1).trans ((hy.2.2.2.1).trans (by first|rfl|exact congrArg Option.some HVV.out.1|exact congrArg Option.some HVV.out.1.symm)))),(hqq 121 (by omega)).symm.trans ((hu.2.2.2.2.2.1).trans ((hz.2.2.2.2.2.1).trans ((hy.2.2.2.2.2.1).trans (by first|rfl|exact congrArg Option.some HVV.out.1|exact congrArg Option.some HVV.out.1.symm)))),(hqq 122 (by omega)).symm.trans ((hu.2.2.2.2.2.2.1).trans ((hz.2.2.2.2.2.2.1).trans ((hy.2.2.2.2.2.2.1).trans (by first|rfl|exact congrArg Option.some HVV.out.1|exact congrArg Option.some HVV.out.1.symm)))),(hqq 123 (by omega)).symm.trans ((hu.2.2.2.2.2.2.2).trans ((hz.2.2.2.2.2.2.2.1).trans ((hy.2.2.2.2.2.2.2).trans (by first|rfl|exact congrArg Option.some HVV.out.1|exact congrArg Option.some HVV.out.1.symm))))⟩
    ·rfl
theorem exit5 {wr:World} {n2 c2 t:Nat} {a2:Option Addr} (v:Nat→Value) (_h41:n2≤41) (ht:t≤8) (h19:v 19=.slice a2 n2 c2) (h40:v 40=.int .i64 (t:Int)) (hc:¬(t+3<n2)∨¬t<8) (Q0:Exit→Act→World→Prop)
  (hexit:∀(ys:List Value),ys.length=374→(ys[8]?=Option.some (v 8)∧ys[10]?=Option.some (v 10)∧ys[15]?=Option.some (v 15)∧ys[19]?=Option.some (v 19)∧ys[121]?=Option.some (v 121)∧ys[122]?=Option.some (v 122)∧ys[123]?=Option.some (v 123))→Q0 (.exit 8) ⟨ys.toArray,[]⟩ wr) :
  (mS_ 4).wp Tryz.prog Q0 ⟨(hO_ v).toArray,[]⟩ wr:=by
 have HX:=hid hexit
 clear hexit
 have w3:IntKind.i64.wrap ((t:Int)+3)=((t:Int)+3):=IntWalk.i64_in _ (by omega)
 unfold mS_ hO_
 conv=>arg 2;whnf
 dsimp only
 by_cases hlt:t+3<n2
 ·have h8:¬t<8:=by rcases hc with h|h <;> omega
  have d3:decide ((t:Int)+3<(n2:Int))=true:=decide_eq_true (by omega)
  have d8:decide ((t:Int)<8)=false:=decide_eq_false (by omega)
  clear hc
  go_wp2
  refine HX.out _ ?_ ?_
  ·rfl
  ·exact⟨rfl,rfl,rfl,by first|rfl|exact congrArg Option.some h19.symm,rfl,rfl,rfl⟩
 ·have d3:decide ((t:Int)+3<(n2:Int))=false:=decide_eq_false (by omega)
  clear hc
  go_wp2
  refine HX.out _ ?_ ?_
  ·rfl
  ·exact⟨rfl,rfl,rfl,by first|rfl|exact congrArg Option.some h19.symm,rfl,rfl,rfl⟩
theorem loop5 {w:World} {a2:Option Addr} {n2 c2:Nat} {ps:List Pl} {l8 l10 l15 l121 l122 l123:Value} (xs:List Value) (HI:Hid (IOps w∧FrOp w)) (HNP:Hid (ps.length=n2)) (h41:n2≤41) (HQ:Hid (PtAt a2 ps w)) (hl:xs.length=374) (hv:xs[8]?=Option.some l8∧xs[10]?=Option.some l10∧xs[15]?=Option.some l15∧xs[19]?=Option.some (.slice a2 n2 c2)∧xs[121]?=Option.some l121∧xs[122]?=Option.some l122∧xs[123]?=Option.some l123) (h40:xs[40]?=Option.some (.int .i64 (0:Nat))) (Q0:Exit→Act→World→Prop)
  (hexit:∀(ys:List Value) (W:World),ys.length=374→(ys[8]?=Option.some l8∧ys[10]?=Option.some l10∧ys[15]?=Option.some l15∧ys[19]?=Option.some (.slice a2 n2 c2)∧ys[121]?=Option.some l121∧ys[122]?=Option.some l122∧ys[123]?=Option.some l123)→Below w.heap.size w W→Q0 (.exit 8) ⟨ys.toArray,[]⟩ W) :
  (Code.loop (mS_ 4)).wp Tryz.prog Q0 ⟨xs.toArray,[]⟩ w:=by
 refine wp_loop (fun a W=>∃(ys:List Value) (t:Nat),a=⟨ys.toArray,[]⟩∧ys.length=374∧(ys[8]?=Option.some l8∧ys[10]?=Option.some l10∧ys[15]?=Option.some l15∧ys[19]?=Option.some (.slice a2 n2 c2)∧ys[121]?=Option.some l121∧ys[122]?=Option.some l122∧ys[123]?=Option.some l123)∧ys[40]?=Option.some (.int .i64 (t:Int))∧t≤8∧Below w.heap.size w W) (fun a _=>8-(intOf (a.tmps.getD 40 undef)).toNat) ⟨xs,0,rfl,hl,hv,h40,by omega,Below.refl _ _⟩ ?_
 rintro a W ⟨ys,t,rfl,hyl,hyv,hy40,ht,hb⟩
 obtain⟨v,hv',hvv⟩:=eD_ ys hyl
 have s40:=Option.some.inj ((hvv 40 (by omega)).symm.trans hy40)
 have s19:=Option.some.inj ((hvv 19 (by omega)).symm.trans hyv.2.2.2.1)
 have back:∀zs:List Value,(zs[8]?=Option.some (v 8)∧zs[10]?=Option.some (v 10)∧zs[15]?=Option.some (v 15)∧zs[19]?=Option.some (v 19)∧zs[121]?=Option.some (v 121)∧zs[122]?=Option.some (v 122)∧zs[123]?=Option.some (v 123))→(zs[8]?=Option.some l8∧zs[10]?=Option.some l10∧zs[15]?=Option.some l15∧zs[19]?=Option.some (.slice a2 n2 c2)∧zs[121]?=Option.some l121∧zs[122]?=Option.some l122∧zs[123]?=Option.some l123):=by
  rintro zs ⟨z8,z10,z15,z19,z121,z122,z123⟩
  obtain⟨y8,y10,y15,y19,y121,y122,y123⟩:=hyv
  exact⟨z8.trans ((hvv 8 (by omega)).symm.trans y8),z10.trans ((hvv 10 (by omega)).symm.trans y10),z15.trans ((hvv 15 (by omega)).symm.trans y15),z19.trans ((hvv 19 (by omega)).symm.trans y19),z121.trans ((hvv 121 (by omega)).symm.trans y121),z122.trans ((hvv 122 (by omega)).symm.trans y122),z123.trans ((hvv 123 (by omega)).symm.trans y123)⟩
 have key:∀Q1:Exit→Act→World→Prop,(t<8→∀(zs:List Value) (W':World),zs.length=374→(zs[8]?=Option.some l8∧zs[10]?=Option.some l10∧zs[15]?=Option.some l15∧zs[19]?=Option.some (.slice a2 n2 c2)∧zs[121]?=Option.some l121∧zs[122]?=Option.some l122∧zs[123]?=Option.some l123)→zs[40]?=Option.some (.int .i64 ((t:Int)+1))→Below W.heap.size W W'→Q1 .normal ⟨zs.toArray,[]⟩ W')→(∀(zs:List Value),zs.length=374→(zs[8]?=Option.some l8∧zs[10]?=Option.some l10∧zs[15]?=Option.some l15∧zs[19]?=Option.some (.slice a2 n2 c2)∧zs[121]?=Option.some l121∧zs[122]?=Option.some l122∧zs[123]?=Option.some l123)→Q1 (.exit 8) ⟨zs.toArray,[]⟩ W)→(mS_ 4).wp Tryz.prog Q1 ⟨ys.toArray,[]⟩ W:=by
  intro Q1 hn hx
  rw[hv']
  by_cases hlt:t+3<n2∧t<8
  ·exact round5 v (hid ⟨HI.out.1.below hb,HI.out.2.below hb⟩) HNP h41 ht (hid (HQ.out.below hb)) s19 s40 hlt.1 hlt.2 Q1 fun zs W' hz hzv hz40 hb'=>hn hlt.2 zs W' hz (back zs hzv) hz40 hb'
  ·exact exit5 v h41 ht s19 s40 (by omega) Q1 fun zs hz hzv=>hx zs hz (back zs hzv)
 refine key _ (fun hlt zs W' hz hzv hz40 hb'=>And.intro ⟨zs,t+1,rfl,hz,hzv,by rw[hz40];rfl,by omega,hb.trans (hb'.mono hb.size)⟩ ?_) (fun zs hz h=>hexit zs W hz h hb)
 simp[Array.getD_eq_getD_getElem?,hz40,hy40,intOf]
 omega
theorem aOT {L:List Pl} {k:Nat} (z:Pl) (hk:k<L.length):plC (L.set k z)=((plC L).set (k*2) (.int .i64 z.x)).set (k*2+1) (.int .i64 z.y):=by
 induction L generalizing k with
 | nil=>simp at hk
 | cons p L ih=>
  cases k with
  | zero=>rfl
  | succ k=>
   have:=ih (k:=k) (by simpa using hk)
   show .int .i64 p.x::.int .i64 p.y::plC (L.set k z)=_
   rw[this,show(k+1)*2=k*2+1+1 by omega]
   rfl
theorem PtAt.take {a:Option Addr} {ps:List Pl} {W:World} (h:PtAt a ps W) (k:Nat):PtAt a (ps.take k) W:=⟨fun i p hp=>h.row i p (by
 rw[List.getElem?_take] at hp
 split at hp
 ·exact hp
 ·cases hp)⟩
theorem same_h {a c:Option Addr} {n c1 c2:Nat} {ps:List Pl} (hp:ps.length=n) (hn:n≤1000000) {w:World} (h1:PtAt a ps w) (h2:PtAt c ps w) :
  Calls Tryz.prog 20 #[.slice a n c1,.slice c n c2] w fun e w'=>e=.returned (.bool true)∧Below w.heap.size w w':=by
 have:=aEI (c1:=c1) (c2:=c2) hp hp hn hn w h1 h2
 rw[decide_eq_true rfl] at this
 exact this
theorem round2 (y0 y1 y2 y3 y4 y5 y6 y7:Int) {odd:Pl} {rect R:Rc} {L Bt raw:List Pl} {m c cb kk rcap rn g gb R1 X:Nat} {ra:Option Addr} {w:World} {j:Nat} {wr:World} (v:Nat→Value) (HI:Hid (IOps w∧FrOp w)) (HML:Hid (L.length=m)) (hBl:Bt.length=m) (hm12:m≤12) (hk41:kk≤41) (hkn:kk≤rn) (HRR:Hid (PtAt ra raw w∧raw.length=rn))
  (h8:v 8=.pointer (Option.some ⟨w.heap.size+1,0,none⟩)) (h10:v 10=.pointer (Option.some ⟨w.heap.size+1+1,0,none⟩)) (h15:v 15=.pointer (Option.some ⟨R1,0,none⟩)) (h121:v 121=.slice (Option.some ⟨X,0,none⟩) 4 4) (h122:v 122=.int .i64 4) (h123:v 123=.int .i64 (j:Int)) (hlt:j<4) (HA:Hid (AzAt [(X,[.slice (some ⟨g,0,none⟩) m c,.slice (some ⟨gb,0,none⟩) m cb,.slice ra kk rcap,.slice none 0 0]),(R1,rcC R),(gb,plC Bt),(g,plC L),(w.heap.size+2,rcC rect),(w.heap.size+1,plC [odd]),(w.heap.size,[.int .i64 y0,.int .i64 y1,.int .i64 y2,.int .i64 y3,.int .i64 y4,.int .i64 y5,.int .i64 y6,.int .i64 y7])] w wr)) (Q0:Exit→Act→World→Prop)
  (hend:∀(ys:List Value) (W:World),ys.length=374→(ys[8]?=Option.some (.pointer (Option.some ⟨w.heap.size+1,0,none⟩))∧ys[10]?=Option.some (.pointer (Option.some ⟨w.heap.size+1+1,0,none⟩))∧ys[15]?=Option.some (.pointer (Option.some ⟨R1,0,none⟩))∧ys[121]?=Option.some (.slice (Option.some ⟨X,0,none⟩) 4 4)∧ys[122]?=Option.some (.int .i64 4)∧ys[123]?=Option.some (.int .i64 ((j:Int)+1)))→AzAt [(X,[.slice (some ⟨g,0,none⟩) m c,.slice (some ⟨gb,0,none⟩) m cb,.slice ra kk rcap,.slice none 0 0]),(R1,rcC R),(gb,plC Bt),(g,plC L),(w.heap.size+2,rcC rect),(w.heap.size+1,plC [odd]),(w.heap.size,[.int .i64 y0,.int .i64 y1,.int .i64 y2,.int .i64 y3,.int .i64 y4,.int .i64 y5,.int .i64 y6,.int .i64 y7])] w W→Q0 .normal ⟨ys.toArray,[]⟩ W) :
  (mS_ 1).wp Tryz.prog Q0 ⟨(hO_ v).toArray,[]⟩ wr:=by
 have HEND:=hid hend
 clear hend
 unfold hO_
 rw[h8,h10,h15,h121,h122,h123]
 clear h8 h10 h15 h121 h122 h123
 unfold mS_
 conv=>arg 2;whnf
 dsimp only
 obtain⟨a2,n2,c2,ps,hcell,hps,hpl,h41⟩:∃(a2:Option Addr) (n2 c2:Nat) (ps:List Pl),wr.cell? ⟨X,j,none⟩=Option.some (.slice a2 n2 c2)∧PtAt a2 ps wr∧ps.length=n2∧n2≤41:=by
  have ha:=(HA.out.at (B:=X) (l:=[.slice (some ⟨g,0,none⟩) m c,.slice (some ⟨gb,0,none⟩) m cb,.slice ra kk rcap,.slice none 0 0]) (by simp)).row
  obtain rfl|rfl|rfl|rfl:j=0∨j=1∨j=2∨j=3:=by omega
  ·exact⟨_,_,_,L,ha 0 _ rfl,PtAt.of (PsAt.of (HA.out.at (B:=g) (l:=plC L) (by simp))),HML.out,by omega⟩
  ·exact⟨_,_,_,Bt,ha 1 _ rfl,PtAt.of (PsAt.of (HA.out.at (B:=gb) (l:=plC Bt) (by simp))),hBl,by omega⟩
  ·exact⟨_,_,_,raw.take kk,ha 2 _ rfl,(HRR.out.1.below HA.out.bw).take kk,by rw[List.length_take,HRR.out.2];omega,hk41⟩
  ·exact⟨_,_,_,[],ha 3 _ rfl,PtAt.nil _,rfl,by omega⟩
 have i1:(0:Int)≤(j:Int):=by omega
 have i2:(j:Int)<4:=by omega
 have i3:decide ((j:Int)<4)=true:=decide_eq_true i2
 have i4:decide (j<4)=true:=decide_eq_true hlt
 have g5:IntKind.i64.wrap ((j:Int)+1)=(j:Int)+1:=IntWalk.i64_in _ (by omega)
 have hh41:=aQE ps (by omega)
 have K1:=hid (fun(W:World) (hb:Below wr.heap.size wr W)=>aLU (cap:=c2) hpl h41 W (hps.below hb))
 have K2:=hid (fun(W:World) (hb:Below wr.heap.size wr W)=>aIC (cap:=c2) hpl h41 W (hps.below hb))
 have K3:=hid (fun(W:World) (hb:Below wr.heap.size wr W)=>hull_u (cap:=c2) hpl h41 W (hps.below hb))
 have K4:=hid (fun(W:World) (hb:Below wr.heap.size wr W)=>aQB (cap:=c2) hpl h41 W (hps.below hb))
 have K5:=hid (fun(W:World) (hb:Below wr.heap.size wr W)=>area_u (cap:=c2) hpl h41 W (hps.below hb))
 have K6:=hid (fun(W:World) (hb:Below wr.heap.size wr W)=>aRD (cap:=c2) hpl h41 W (hps.below hb))
 obtain⟨hu,hhu⟩:∃hu,hu=huX ps:=⟨_,rfl⟩
 rw[←hhu] at K3 K4 hh41
 obtain⟨nh,hnh⟩:∃nh,nh=hu.length:=⟨_,rfl⟩
 rw[←hnh] at K3 K4 hh41
 have HNH:=hid hnh.symm
 have HPS:=hid (And.intro hps (And.intro hpl h41))
 generalize arX ps=ar at K1 K2
 generalize erX ps=er at K1 K2 K3 K4 K5 K6
 generalize aeX ps=ae at K5 K6
 have e1:(er != er)=false:=by simp
 have e2:(ae != ae)=false:=by simp
 have H0:=hid (AzAt.start wr)
 clear hhu hnh hps hpl
 go_wp2_with (first
  | (go_at_call 14;(with_reducible refine(K1.out _ H0.out.bw).mono ?_);rintro e u1 ⟨rfl,hb⟩;have H1:=hid ((H0.out.below hb).push [.int .i64 ar.x,.int .i64 ar.y,.int .i64 ar.w,.int .i64 ar.h] 29);clear hb)
  | (go_at_call 15;(with_reducible refine(K2.out _ H1.out.bw).mono ?_);rintro e u2 ⟨rfl,hb⟩;have H2:=hid ((H1.out.below hb).push [.int .i64 ar.x,.int .i64 ar.y,.int .i64 ar.w,.int .i64 ar.h] 29);clear hb)
  | (go_at_call 16;(with_reducible refine(K3.out _ H2.out.bw).mono ?_);rintro e u3 ⟨⟨ga,ca,rfl,hga⟩,hb⟩;have H3:=hid (H2.out.below hb);have HGA:=hid hga;clear hb hga)
  | (go_at_call 17;(with_reducible refine(K4.out _ H3.out.bw).mono ?_);rintro e u4 ⟨⟨gd,cd,rfl,hgd⟩,hb⟩;have H4:=hid (H3.out.below hb);have HGD:=hid hgd;replace HGA:=hid (HGA.out.below hb);clear hb hgd)
  | (go_at_call 18;(with_reducible refine(K5.out _ H4.out.bw).mono ?_);rintro e u5 ⟨rfl,hb⟩;have H5:=hid (H4.out.below hb);replace HGA:=hid (HGA.out.below hb);replace HGD:=hid (HGD.out.below hb);clear hb)
  | (go_at_call 19;(with_reducible refine(K6.out _ H5.out.bw).mono ?_);rintro e u6 ⟨rfl,hb⟩;have H6:=hid (H5.out.below hb);replace HGA:=hid (HGA.out.below hb);replace HGD:=hid (HGD.out.below hb);clear hb;have h_:=H6.out.at (B:=u1.heap.size) (l:=[.int .i64 ar.x,.int .i64 ar.y,.int .i64 ar.w,.int .i64 ar.h]) (by simp);have x0:=h_.row 0 _ rfl;have x1:=h_.row 1 _ rfl;have x2:=h_.row 2 _ rfl;have x3:=h_.row 3 _ rfl;clear h_;have h_:=H6.out.at (B:=u2.heap.size) (l:=[.int .i64 ar.x,.int .i64 ar.y,.int .i64 ar.w,.int .i64 ar.h]) (by simp);have z0:=h_.row 0 _ rfl;have z1:=h_.row 1 _ rfl;have z2:=h_.row 2 _ rfl;have z3:=h_.row 3 _ rfl;clear h_)
  | (go_at_call 20;(with_reducible refine(same_h HNH.out (by omega) HGA.out HGD.out).mono ?_);rintro e u7 ⟨rfl,hb⟩;have H7:=hid (H6.out.below hb);replace HGD:=hid (HGD.out.below hb);clear hb x0 x1 x2 x3 z0 z1 z2 z3)
  | fail)
 have HG:=hid ((HA.out.below H7.out.bw).push [.slice a2 n2 c2,.slice gd nh cd] 27)
 have hbal:Below u7.heap.size u7 (u7.alloc (.cells #[.slice a2 n2 c2,.slice gd nh cd] 27)):=(Below.refl _ _).alloc (Nat.le_refl _) _
 have HPT:=hid (And.intro ((HPS.out.1.below H7.out.bw).below hbal) (HGD.out.below hbal))
 obtain⟨M2,hM2⟩:∃M2,M2=u7.heap.size:=⟨_,rfl⟩
 rw[←hM2] at HG⊢
 generalize u7.alloc (.cells #[.slice a2 n2 c2,.slice gd nh cd] 27)=W10 at HG HPT⊢
 have HNN:=hid (And.intro HPS.out.2.1 (And.intro HPS.out.2.2 (And.intro HNH.out hh41)))
 clear hbal hM2 HA H0 H1 H2 H3 H4 H5 H6 H7 HGA HGD HPS HNH K1 K2 K3 K4 K5 K6 e1 e2 hcell hh41
 go_loopw [190] (fun v190 wq=>∃q:Nat,q≤2∧v190=.int .i64 (q:Int)∧AzAt [(M2,[.slice a2 n2 c2,.slice gd nh cd]),(X,[.slice (some ⟨g,0,none⟩) m c,.slice (some ⟨gb,0,none⟩) m cb,.slice ra kk rcap,.slice none 0 0]),(R1,rcC R),(gb,plC Bt),(g,plC L),(w.heap.size+2,rcC rect),(w.heap.size+1,plC [odd]),(w.heap.size,[.int .i64 y0,.int .i64 y1,.int .i64 y2,.int .i64 y3,.int .i64 y4,.int .i64 y5,.int .i64 y6,.int .i64 y7])] w wq∧PtAt a2 ps wq∧PtAt gd hu wq) (fun v190 _=>2-(intOf v190).toNat)
 case atStart=>exact⟨0,by omega,rfl,HG.out,HPT.out⟩
 case round=>
  obtain⟨q,hq,rfl,hA,hps,hhp⟩:=hrel
  have HA:=hid hA
  clear hA HG HPT
  by_cases hlt3:q<2
  ·obtain⟨a3,n3,c3,qs,hcell,hqs,hql,hq41⟩:∃(a3:Option Addr) (n3 c3:Nat) (qs:List Pl),wr.cell? ⟨M2,q,none⟩=Option.some (.slice a3 n3 c3)∧PtAt a3 qs wr∧qs.length=n3∧n3≤41:=by
    have ha:=(HA.out.at (B:=M2) (l:=[.slice a2 n2 c2,.slice gd nh cd]) (by simp)).row
    obtain rfl|rfl:q=0∨q=1:=by omega
    ·exact⟨_,_,_,ps,ha 0 _ rfl,hps,HNN.out.1,HNN.out.2.1⟩
    ·exact⟨_,_,_,hu,ha 1 _ rfl,hhp,HNN.out.2.2.1,HNN.out.2.2.2⟩
   have q1:(0:Int)≤(q:Int):=by omega
   have q2:(q:Int)<2:=by omega
   have q3:decide ((q:Int)<2)=true:=decide_eq_true q2
   have q4:decide (q<2)=true:=decide_eq_true hlt3
   have gq:IntKind.i64.wrap ((q:Int)+1)=(q:Int)+1:=IntWalk.i64_in _ (by omega)
   have h_:=HA.out.at (B:=R1) (l:=rcC R) (by simp)
   have hr0:=h_.row 0 _ rfl
   have hr1:=h_.row 1 _ rfl
   have hr2:=h_.row 2 _ rfl
   have hr3:=h_.row 3 _ rfl
   clear h_
   have h_:=HA.out.at (B:=w.heap.size+2) (l:=rcC rect) (by simp)
   have hs0:=h_.row 0 _ rfl
   have hs1:=h_.row 1 _ rfl
   have hs2:=h_.row 2 _ rfl
   have hs3:=h_.row 3 _ rfl
   clear h_
   have HQ:=hid (And.intro hps (And.intro hhp hqs))
   have HQL:=hid (And.intro hql hq41)
   clear hps hhp hqs hql hq41
   go_wp2
   have HB:=hid (show AzAt ((wr.heap.size,rcC R++rcC rect)::[(M2,[.slice a2 n2 c2,.slice gd nh cd]),(X,[.slice (some ⟨g,0,none⟩) m c,.slice (some ⟨gb,0,none⟩) m cb,.slice ra kk rcap,.slice none 0 0]),(R1,rcC R),(gb,plC Bt),(g,plC L),(w.heap.size+2,rcC rect),(w.heap.size+1,plC [odd]),(w.heap.size,[.int .i64 y0,.int .i64 y1,.int .i64 y2,.int .i64 y3,.int .i64 y4,.int .i64 y5,.int .i64 y6,.int .i64 y7])]) w (wr.alloc (.cells #[.int .i64 R.x,.int .i64 R.y,.int .i64 R.w,.int .i64 R.h,.int .i64 rect.x,.int .i64 rect.y,.int .i64 rect.w,.int .i64 rect.h] 29)) from HA.out.push [.int .i64 R.x,.int .i64 R.y,.int .i64 R.w,.int .i64 R.h,.int .i64 rect.x,.int .i64 rect.y,.int .i64 rect.w,.int .i64 rect.h] 29)
   have hbal:Below wr.heap.size wr (wr.alloc (.cells #[.int .i64 R.x,.int .i64 R.y,.int .i64 R.w,.int .i64 R.h,.int .i64 rect.x,.int .i64 rect.y,.int .i64 rect.w,.int .i64 rect.h] 29)):=(Below.refl _ _).alloc (Nat.le_refl _) _
   have HQ2:=hid (And.intro (HQ.out.1.below hbal) (And.intro (HQ.out.2.1.below hbal) (HQ.out.2.2.below hbal)))
   obtain⟨S2,hS2⟩:∃S2,S2=wr.heap.size:=⟨_,rfl⟩
   rw[←hS2] at HB⊢
   generalize wr.alloc (.cells #[.int .i64 R.x,.int .i64 R.y,.int .i64 R.w,.int .i64 R.h,.int .i64 rect.x,.int .i64 rect.y,.int .i64 rect.w,.int .i64 rect.h] 29)=W11 at HB HQ2⊢
   clear hbal hS2 hr0 hr1 hr2 hr3 hs0 hs1 hs2 hs3 hcell HA HQ
   go_loopw [198] (fun v198 wq=>∃o:Nat,o≤2∧v198=.int .i64 (o:Int)∧AzAt ((S2,rcC R++rcC rect)::[(M2,[.slice a2 n2 c2,.slice gd nh cd]),(X,[.slice (some ⟨g,0,none⟩) m c,.slice (some ⟨gb,0,none⟩) m cb,.slice ra kk rcap,.slice none 0 0]),(R1,rcC R),(gb,plC Bt),(g,plC L),(w.heap.size+2,rcC rect),(w.heap.size+1,plC [odd]),(w.heap.size,[.int .i64 y0,.int .i64 y1,.int .i64 y2,.int .i64 y3,.int .i64 y4,.int .i64 y5,.int .i64 y6,.int .i64 y7])]) w wq∧PtAt a2 ps wq∧PtAt gd hu wq∧PtAt a3 qs wq) (fun v198 _=>2-(intOf v198).toNat)
   case atStart=>exact⟨0,by omega,rfl,HB.out,HQ2.out⟩
   case round=>
    as_aux_lemma=>
    obtain⟨o,ho,rfl,hA,hps,hhp,hqs⟩:=hrel
    have HA:=hid hA
    have HQ:=hid (And.intro hps (And.intro hhp hqs))
    clear hA HB HQ2 hps hhp hqs
    by_cases hlt4:o<2
    ·obtain⟨s,s0,s1,s2,s3⟩:∃s:Rc,wr.cell? ⟨S2,o*4,none⟩=Option.some (.int .i64 s.x)∧wr.cell? ⟨S2,o*4+1,none⟩=Option.some (.int .i64 s.y)∧wr.cell? ⟨S2,o*4+2,none⟩=Option.some (.int .i64 s.w)∧wr.cell? ⟨S2,o*4+3,none⟩=Option.some (.int .i64 s.h):=by
      have ha:=(HA.out.at (B:=S2) (l:=rcC R++rcC rect) (by simp)).row
      obtain rfl|rfl:o=0∨o=1:=by omega
      ·exact⟨R,ha 0 _ rfl,ha 1 _ rfl,ha 2 _ rfl,ha 3 _ rfl⟩
      ·exact⟨rect,ha 4 _ rfl,ha 5 _ rfl,ha 6 _ rfl,ha 7 _ rfl⟩
     have o1:(0:Int)≤(o:Int):=by omega
     have o2:(o:Int)<2:=by omega
     have o3:decide ((o:Int)<2)=true:=decide_eq_true o2
     have o4:decide (o<2)=true:=decide_eq_true hlt4
     have go:IntKind.i64.wrap ((o:Int)+1)=(o:Int)+1:=IntWalk.i64_in _ (by omega)
     have C1:=hid (fun(W:World) (hb:Below wr.heap.size wr W)=>cov_u (cap:=c3) s HQL.out.1 HQL.out.2 (HQ.out.2.2.below hb) ((HI.out.1.below HA.out.bw).below hb) ((HI.out.2.below HA.out.bw).below hb))
     have C2:=hid (fun(W:World) (hb:Below wr.heap.size wr W)=>cov_ur (cap:=c3) s HQL.out.1 HQL.out.2 (HQ.out.2.2.below hb))
     generalize qN (coX qs s)=cn at C1 C2
     generalize qD (coX qs s)=cd2 at C1 C2
     generalize ecX qs s=ec at C1 C2
     have e1:(ec != ec)=false:=by simp
     have H1:=hid ((AzAt.start wr).push [.int .i64 s.x,.int .i64 s.y,.int .i64 s.w,.int .i64 s.h] 29)
     go_wp2_with (first
      | (go_at_call 21;(with_reducible refine(C1.out _ H1.out.bw).mono ?_);rintro e u1 ⟨rfl,hb⟩;have H2:=hid ((H1.out.below hb).push [.string cn,.string cd2] 47);clear hb;have h_:=H2.out.at (B:=wr.heap.size) (l:=[.int .i64 s.x,.int .i64 s.y,.int .i64 s.w,.int .i64 s.h]) (by simp);have x0:=h_.row 0 _ rfl;have x1:=h_.row 1 _ rfl;have x2:=h_.row 2 _ rfl;have x3:=h_.row 3 _ rfl;clear h_)
      | (go_at_call 22;(with_reducible refine(C2.out _ H2.out.bw).mono ?_);rintro e u2 ⟨rfl,hb⟩;have H3:=hid ((H2.out.below hb).push [.string cn,.string cd2] 47);clear hb x0 x1 x2 x3;have h_:=H3.out.at (B:=u1.heap.size) (l:=[.string cn,.string cd2]) (by simp);have z0:=h_.row 0 _ rfl;have z1:=h_.row 1 _ rfl;clear h_;have h_:=H3.out.at (B:=u2.heap.size) (l:=[.string cn,.string cd2]) (by simp);have zz0:=h_.row 0 _ rfl;have zz1:=h_.row 1 _ rfl;clear h_)
      | fail)
     exact⟨⟨o+1,by omega,by go_num,HA.out.below H3.out.bw,HQ.out.1.below H3.out.bw,HQ.out.2.1.below H3.out.bw,HQ.out.2.2.below H3.out.bw⟩,by simp only[intOf];omega⟩
    ·obtain rfl:o=2:=by omega
     have o3:decide ((2:Int)<2)=false:=rfl
     go_wp2
     exact⟨⟨q+1,by omega,by go_num,HA.out.sub (fun x hx=>List.mem_cons_of_mem _ hx),HQ.out.1,HQ.out.2.1⟩,by simp only[intOf];omega⟩
  ·obtain rfl:q=2:=by omega
   have q3:decide ((2:Int)<2)=false:=rfl
   have HB:=hid (HA.out.sub (L':=[(X,[.slice (some ⟨g,0,none⟩) m c,.slice (some ⟨gb,0,none⟩) m cb,.slice ra kk rcap,.slice none 0 0]),(R1,rcC R),(gb,plC Bt),(g,plC L),(w.heap.size+2,rcC rect),(w.heap.size+1,plC [odd]),(w.heap.size,[.int .i64 y0,.int .i64 y1,.int .i64 y2,.int .i64 y3,.int .i64 y4,.int .i64 y5,.int .i64 y6,.int .i64 y7])]) (fun x hx=>List.mem_cons_of_mem _ hx))
   have HP2:=hid hps
   clear HA hps hhp hlt3
   have HNP:=hid HNN.out.1
   have h41b:=HNN.out.2.1
   clear HNN
   go_wp2
   have HI5:=hid (And.intro (HI.out.1.below HB.out.bw) (HI.out.2.below HB.out.bw))
   refine loop5 _ HI5 HNP h41b HP2 rfl ⟨rfl,rfl,rfl,rfl,rfl,rfl,rfl⟩ rfl _ ?_
   intro ys W hyl hyv hb
   obtain⟨v',hv',hvv⟩:=eD_ ys hyl
   have s8:=Option.some.inj ((hvv 8 (by omega)).symm.trans hyv.1)
   have s10:=Option.some.inj ((hvv 10 (by omega)).symm.trans hyv.2.1)
   have s15:=Option.some.inj ((hvv 15 (by omega)).symm.trans hyv.2.2.1)
   have s121:=Option.some.inj ((hvv 121 (by omega)).symm.trans hyv.2.2.2.2.1)
   have s122:=Option.some.inj ((hvv 122 (by omega)).symm.trans hyv.2.2.2.2.2.1)
   have s123:=Option.some.inj ((hvv 123 (by omega)).symm.trans hyv.2.2.2.2.2.2)
   have HZ:=hid (HB.out.below hb)
   rw[hv']
   unfold hO_
   rw[s123]
   clear hv' hvv hyv hb HB HP2 HI5 s123
   dsimp only
   go_wp2
   refine HEND.out _ _ ?_ ?_ HZ.out
   ·rfl
   ·exact⟨(by first|rfl|exact congrArg Option.some s8),(by first|rfl|exact congrArg Option.some s10),(by first|rfl|exact congrArg Option.some s15),(by first|rfl|exact congrArg Option.some s121),(by first|rfl|exact congrArg Option.some s122),rfl⟩
theorem exit2 {wr:World} (v:Nat→Value) (h122:v 122=.int .i64 4) (h123:v 123=.int .i64 4) (Q0:Exit→Act→World→Prop)
  (hexit:∀(ys:List Value),ys.length=374→(ys[8]?=Option.some (v 8)∧ys[10]?=Option.some (v 10))→Q0 (.exit 2) ⟨ys.toArray,[]⟩ wr) :
  (mS_ 1).wp Tryz.prog Q0 ⟨(hO_ v).toArray,[]⟩ wr:=by
 have HX:=hid hexit
 clear hexit
 have i3:decide ((4:Int)<4)=false:=rfl
 unfold mS_ hO_
 conv=>arg 2;whnf
 dsimp only
 go_wp2
 exact HX.out _ rfl ⟨rfl,rfl⟩
theorem loop2 (y0 y1 y2 y3 y4 y5 y6 y7:Int) {odd:Pl} {rect R:Rc} {L Bt raw:List Pl} {m c cb kk rcap rn g gb R1 X:Nat} {ra:Option Addr} {w:World} {w0:World} (xs:List Value) (HI:Hid (IOps w∧FrOp w)) (HML:Hid (L.length=m)) (hBl:Bt.length=m) (hm12:m≤12) (hk41:kk≤41) (hkn:kk≤rn) (HRR:Hid (PtAt ra raw w∧raw.length=rn))
  (hl:xs.length=374) (hv:(xs[8]?=Option.some (.pointer (Option.some ⟨w.heap.size+1,0,none⟩))∧xs[10]?=Option.some (.pointer (Option.some ⟨w.heap.size+1+1,0,none⟩))∧xs[15]?=Option.some (.pointer (Option.some ⟨R1,0,none⟩))∧xs[121]?=Option.some (.slice (Option.some ⟨X,0,none⟩) 4 4)∧xs[122]?=Option.some (.int .i64 4)∧xs[123]?=Option.some (.int .i64 (0:Nat)))) (HA:Hid (AzAt [(X,[.slice (some ⟨g,0,none⟩) m c,.slice (some ⟨gb,0,none⟩) m cb,.slice ra kk rcap,.slice none 0 0]),(R1,rcC R),(gb,plC Bt),(g,plC L),(w.heap.size+2,rcC rect),(w.heap.size+1,plC [odd]),(w.heap.size,[.int .i64 y0,.int .i64 y1,.int .i64 y2,.int .i64 y3,.int .i64 y4,.int .i64 y5,.int .i64 y6,.int .i64 y7])] w w0)) (Q0:Exit→Act→World→Prop)
  (hexit:∀(ys:List Value) (W:World),ys.length=374→ys[8]?=Option.some (.pointer (Option.some ⟨w.heap.size+1,0,none⟩))∧ys[10]?=Option.some (.pointer (Option.some ⟨w.heap.size+1+1,0,none⟩))→AzAt [(X,[.slice (some ⟨g,0,none⟩) m c,.slice (some ⟨gb,0,none⟩) m cb,.slice ra kk rcap,.slice none 0 0]),(R1,rcC R),(gb,plC Bt),(g,plC L),(w.heap.size+2,rcC rect),(w.heap.size+1,plC [odd]),(w.heap.size,[.int .i64 y0,.int .i64 y1,.int .i64 y2,.int .i64 y3,.int .i64 y4,.int .i64 y5,.int .i64 y6,.int .i64 y7])] w W→Q0 (.exit 2) ⟨ys.toArray,[]⟩ W) :
  (Code.loop (mS_ 1)).wp Tryz.prog Q0 ⟨xs.toArray,[]⟩ w0:=by
 refine wp_loop (fun a W=>∃(ys:List Value) (j:Nat),a=⟨ys.toArray,[]⟩∧ys.length=374∧(ys[8]?=Option.some (.pointer (Option.some ⟨w.heap.size+1,0,none⟩))∧ys[10]?=Option.some (.pointer (Option.some ⟨w.heap.size+1+1,0,none⟩))∧ys[15]?=Option.some (.pointer (Option.some ⟨R1,0,none⟩))∧ys[121]?=Option.some (.slice (Option.some ⟨X,0,none⟩) 4 4)∧ys[122]?=Option.some (.int .i64 4)∧ys[123]?=Option.some (.int .i64 (j:Int)))∧j≤4∧AzAt [(X,[.slice (some ⟨g,0,none⟩) m c,.slice (some ⟨gb,0,none⟩) m cb,.slice ra kk rcap,.slice none 0 0]),(R1,rcC R),(gb,plC Bt),(g,plC L),(w.heap.size+2,rcC rect),(w.heap.size+1,plC [odd]),(w.heap.size,[.int .i64 y0,.int .i64 y1,.int .i64 y2,.int .i64 y3,.int .i64 y4,.int .i64 y5,.int .i64 y6,.int .i64 y7])] w W) (fun a _=>4-(intOf (a.tmps.getD 123 undef)).toNat) ⟨xs,0,rfl,hl,hv,by omega,HA.out⟩ ?_
 rintro a W ⟨ys,j,rfl,hyl,hyv,hj,hA⟩
 obtain⟨v,hv',hvv⟩:=eD_ ys hyl
 have key:∀Q1:Exit→Act→World→Prop,(j<4→∀(zs:List Value) (W':World),zs.length=374→(zs[8]?=Option.some (.pointer (Option.some ⟨w.heap.size+1,0,none⟩))∧zs[10]?=Option.some (.pointer (Option.some ⟨w.heap.size+1+1,0,none⟩))∧zs[15]?=Option.some (.pointer (Option.some ⟨R1,0,none⟩))∧zs[121]?=Option.some (.slice (Option.some ⟨X,0,none⟩) 4 4)∧zs[122]?=Option.some (.int .i64 4)∧zs[123]?=Option.some (.int .i64 ((j:Int)+1)))→AzAt [(X,[.slice (some ⟨g,0,none⟩) m c,.slice (some ⟨gb,0,none⟩) m cb,.slice ra kk rcap,.slice none 0 0]),(R1,rcC R),(gb,plC Bt),(g,plC L),(w.heap.size+2,rcC rect),(w.heap.size+1,plC [odd]),(w.heap.size,[.int .i64 y0,.int .i64 y1,.int .i64 y2,.int .i64 y3,.int .i64 y4,.int .i64 y5,.int .i64 y6,.int .i64 y7])] w W'→Q1 .normal ⟨zs.toArray,[]⟩ W')→(∀(zs:List Value),zs.length=374→zs[8]?=Option.some (.pointer (Option.some ⟨w.heap.size+1,0,none⟩))∧zs[10]?=Option.some (.pointer (Option.some ⟨w.heap.size+1+1,0,none⟩))→Q1 (.exit 2) ⟨zs.toArray,[]⟩ W)→(mS_ 1).wp Tryz.prog Q1 ⟨ys.toArray,[]⟩ W:=by
  intro Q1 hn hx
  rw[hv']
  have s8:=Option.some.inj ((hvv 8 (by omega)).symm.trans hyv.1)
  have s10:=Option.some.inj ((hvv 10 (by omega)).symm.trans hyv.2.1)
  have s15:=Option.some.inj ((hvv 15 (by omega)).symm.trans hyv.2.2.1)
  have s121:=Option.some.inj ((hvv 121 (by omega)).symm.trans hyv.2.2.2.1)
  have s122:=Option.some.inj ((hvv 122 (by omega)).symm.trans hyv.2.2.2.2.1)
  have s123:=Option.some.inj ((hvv 123 (by omega)).symm.trans hyv.2.2.2.2.2)
  by_cases hlt:j<4
  ·exact round2 y0 y1 y2 y3 y4 y5 y6 y7 v HI HML hBl hm12 hk41 hkn HRR s8 s10 s15 s121 s122 s123 hlt (hid hA) Q1 (hn hlt)
  ·obtain rfl:j=4:=by omega
   exact exit2 v s122 s123 Q1 fun zs hz h=>hx zs hz ⟨h.1.trans (congrArg Option.some s8),h.2.trans (congrArg Option.some s10)⟩
 refine key _ (fun hlt zs W' hz hzv hA'=>And.intro ⟨zs,j+1,rfl,hz,⟨hzv.1,hzv.2.1,hzv.2.2.1,hzv.2.2.2.1,hzv.2.2.2.2.1,by rw[hzv.2.2.2.2.2];rfl⟩,by omega,hA'⟩ ?_) (fun zs hz h=>hexit zs W hz h hA)
 simp[Array.getD_eq_getD_getElem?,hzv.2.2.2.2.2,hyv.2.2.2.2.2,intOf]
 omega
end Go.Proofs.YtjfdefglpoancaaGreatDoor
