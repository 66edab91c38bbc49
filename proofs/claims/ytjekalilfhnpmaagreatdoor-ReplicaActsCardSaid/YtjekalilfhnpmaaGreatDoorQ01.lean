/- A stable sort of an array: what the library's pieces do, and that it is stable. Plain law, no program. A stable sort of an array: runs laid in order by insertion, then merged by pairs. Plain law, no program. -/
import Derived.Sort.LotA
namespace Go.Proofs.YtjekalilfhnpmaaGreatDoor.Stb
open Go.Sort
set_option linter.unusedVariables false
variable {α:Type} [Inhabited α]
def Swapped (d d':Array α) (a b n:Nat):Prop:=
 d'.size=d.size∧∀ x:Nat,d'[x]! = if a≤x∧x < a+n then d[x - a+b]! else if b≤x∧x < b+n then d[x - b+a]! else d[x]!
theorem Swapped.zero (d:Array α) (a b:Nat):Swapped d d a b 0:=⟨rfl,fun x=>by rw [if_neg (by omega),if_neg (by omega)]⟩
theorem Swapped.step {d d':Array α} {a b n:Nat} (h:Swapped d d' a b n) (hab:a+n < b) (hb:b+n < d.size):Swapped d (swp d' (a+n) (b+n)) a b (n+1):=by
 refine ⟨by rw [size_swp];exact h.1,fun x=>?_⟩
 rw [swp_get d' (by rw [h.1];omega) (by rw [h.1];omega)]
 by_cases h1:x=b+n
 ·subst h1
  rw [if_pos rfl,if_neg (by omega),if_pos (by omega),h.2,if_neg (by omega),if_neg (by omega)]
  congr 1
  omega
 ·rw [if_neg h1]
  by_cases h2:x=a+n
  ·subst h2
   rw [if_pos rfl,if_pos (by omega),h.2,if_neg (by omega),if_neg (by omega)]
   congr 1
   omega
  ·rw [if_neg h2,h.2]
   by_cases h3:a≤x∧x < a+n
   ·rw [if_pos h3,if_pos (by omega)]
   ·have e1:¬ (a≤x∧x < a+(n+1)):=by omega
    rw [if_neg h3,if_neg e1]
    by_cases h4:b≤x∧x < b+n
    ·have e2:b≤x∧x < b+(n+1):=by omega
     rw [if_pos h4,if_pos e2]
    ·have e2:¬ (b≤x∧x < b+(n+1)):=by omega
     rw [if_neg h4,if_neg e2]
def rotF (e:Array α) (lo m hi x:Nat):α:=if lo≤x∧x < lo+(hi - m) then e[x+(m - lo)]! else if lo+(hi - m)≤x∧x < hi then e[x - (hi - m)]! else e[x]!
def Rotated (d d':Array α) (lo m hi:Nat):Prop:=d'.size=d.size∧∀ x:Nat,d'[x]! = rotF d lo m hi x
theorem Rotated.none_left (d:Array α) (m hi:Nat):Rotated d d m m hi:=⟨rfl,fun x=>by
 unfold rotF
 split
 ·rw [Nat.sub_self,Nat.add_zero]
 ·rw [if_neg (by omega)]⟩
theorem Rotated.none_right (d:Array α) (lo m:Nat):Rotated d d lo m m:=⟨rfl,fun x=>by
 unfold rotF
 rw [if_neg (by omega)]
 split
 ·rw [Nat.sub_self,Nat.sub_zero]
 ·rfl⟩
theorem rot_left {e e':Array α} {m i j:Nat} (hi:i≤m) (hj:j < i) (h:Swapped e e' (m - i) m j) (x:Nat):rotF e' (m - (i - j)) m (m+j) x=rotF e (m - i) m (m+j) x:=by
 unfold rotF
 simp only [h.2]
 by_cases h1:m - i≤x∧x < m - i+j
 ·rw [if_neg (by omega),if_neg (by omega),if_pos h1,if_pos (by omega)]
  congr 1;omega
 ·by_cases h2:m - i+j≤x∧x < m
  ·by_cases h3:x < m - (i - j)+j
   ·rw [if_pos (by omega),if_neg (by omega),if_pos (by omega),if_neg (by omega),if_pos (by omega)]
    congr 1;omega
   ·rw [if_neg (by omega),if_pos (by omega),if_neg (by omega),if_neg (by omega),if_neg (by omega),if_pos (by omega)]
  ·by_cases h4:m≤x∧x < m+j
   ·by_cases h3:x < m - (i - j)+j
    ·rw [if_pos (by omega),if_neg (by omega),if_pos (by omega),if_neg (by omega),if_pos (by omega)]
     congr 1;omega
    ·rw [if_neg (by omega),if_pos (by omega),if_neg (by omega)]
     by_cases h5:x - (m+j - m) < m
     ·rw [if_neg (by omega),if_neg (by omega),if_pos (by omega)]
     ·rw [if_pos (by omega),if_neg (by omega),if_pos (by omega)]
      congr 1;omega
   ·rw [if_neg (by omega),if_neg (by omega),if_neg (by omega),if_neg (by omega),if_neg (by omega),if_neg (by omega)]
theorem rot_right {e e':Array α} {m i j:Nat} (hi:i≤m) (hj:i < j) (h:Swapped e e' (m - i) (m+j - i) i) (x:Nat):rotF e' (m - i) m (m+(j - i)) x=rotF e (m - i) m (m+j) x:=by
 unfold rotF
 simp only [h.2]
 by_cases h1:x < m - i∨m+j≤x
 ·by_cases h2:x < m - i
  ·rw [if_neg (by omega),if_neg (by omega),if_neg (by omega),if_neg (by omega),if_neg (by omega),if_neg (by omega)]
  ·rw [if_neg (by omega),if_neg (by omega),if_neg (by omega),if_neg (by omega),if_neg (by omega),if_neg (by omega)]
 ·by_cases h2:x < m - i+(j - i)
  ·rw [if_pos (by omega)]
   by_cases h3:x+(m - (m - i)) < m
   ·omega
   ·rw [if_neg (by omega)]
    rw [if_neg (by omega),if_pos (by omega)]
  ·by_cases h3:x < m+(j - i)
   ·rw [if_neg (by omega),if_pos (by omega),if_pos (by omega),if_pos (by omega)]
    congr 1;omega
   ·rw [if_neg (by omega),if_neg (by omega),if_neg (by omega),if_pos (by omega),if_neg (by omega),if_pos (by omega)]
    congr 1;omega
theorem rot_same {e e':Array α} {m i:Nat} (hi:i≤m) (h:Swapped e e' (m - i) m i) (x:Nat):e'[x]! = rotF e (m - i) m (m+i) x:=by
 unfold rotF
 rw [h.2]
 by_cases h1:m - i≤x∧x < m - i+i
 ·rw [if_pos h1,if_pos (by omega)]
  congr 1;omega
 ·have e1:¬ (m - i≤x∧x < m - i+(m+i - m)):=by omega
  rw [if_neg h1,if_neg e1]
  by_cases h2:m≤x∧x < m+i
  ·have e2:m - i+(m+i - m)≤x∧x < m+i:=by omega
   rw [if_pos h2,if_pos e2]
   congr 1;omega
  ·have e2:¬ (m - i+(m+i - m)≤x∧x < m+i):=by omega
   rw [if_neg h2,if_neg e2]
section
variable (tl E:α→α→Prop)
def Srt (a b:Nat) (d:Array α):Prop:=∀ i j,a≤i→i < j→j < b→tl d[i]! d[j]!
structure Mrg (d:Array α) (a m b:Nat):Prop where
 l:Srt tl a m d
 r:Srt tl m b d
 e:∀ i j,a≤i→i < m→m≤j→j < b→E d[i]! d[j]!
variable {tl E}
theorem Srt.le {a b b':Nat} {d:Array α} (h:Srt tl a b d) (hb:b'≤b):Srt tl a b' d:=fun i j h1 h2 h3=>h i j h1 h2 (by omega)
def MovedUp (d d':Array α) (a k:Nat):Prop:=d'.size=d.size∧∀ x:Nat,d'[x]! = if a≤x∧x < k then d[x+1]! else if x=k then d[a]! else d[x]!
theorem MovedUp.start (d:Array α) (a:Nat):MovedUp d d a a:=⟨rfl,fun x=>by
 rw [if_neg (by omega)]
 split
 ·subst_vars;rfl
 ·rfl⟩
theorem MovedUp.step {d d':Array α} {a k:Nat} (h:MovedUp d d' a k) (hak:a≤k) (hk:k+1 < d.size):MovedUp d (swp d' k (k+1)) a (k+1):=by
 refine ⟨by rw [size_swp];exact h.1,fun x=>?_⟩
 rw [swp_get d' (by rw [h.1];omega) (by rw [h.1];omega)]
 by_cases h1:x=k+1
 ·subst h1
  have e1:¬ (a≤k∧k < k):=by omega
  have e2:¬ (a≤k+1∧k+1 < k+1):=by omega
  rw [if_pos rfl,h.2,if_neg e1,if_pos rfl,if_neg e2,if_pos rfl]
 ·rw [if_neg h1]
  by_cases h2:x=k
  ·subst h2
   have e1:¬ (a≤x+1∧x+1 < x):=by omega
   have e2:¬ (x+1=x):=by omega
   have e3:a≤x∧x < x+1:=by omega
   rw [if_pos rfl,h.2,if_neg e1,if_neg e2,if_pos e3]
  ·rw [if_neg h2,h.2]
   by_cases h3:a≤x∧x < k
   ·have e3:a≤x∧x < k+1:=by omega
    rw [if_pos h3,if_pos e3]
   ·have e3:¬ (a≤x∧x < k+1):=by omega
    rw [if_neg h3,if_neg h2,if_neg e3,if_neg h1]
theorem MovedUp.srt {d d':Array α} {a i b:Nat} (h:MovedUp d d' a (i - 1)) (hai:a < i) (hib:i≤b) (hr:Srt tl (a+1) b d) (h1:∀ x,a < x→x < i→tl d[x]! d[a]!) (h2:∀ x,i≤x→x < b→tl d[a]! d[x]!):Srt tl a b d':=by
 intro p q hp hpq hq
 rw [h.2,h.2]
 by_cases c1:a≤p∧p < i - 1
 ·rw [if_pos c1]
  by_cases c2:a≤q∧q < i - 1
  ·rw [if_pos c2];exact hr _ _ (by omega) (by omega) (by omega)
  ·rw [if_neg c2]
   by_cases c3:q=i - 1
   ·rw [if_pos c3];exact h1 _ (by omega) (by omega)
   ·rw [if_neg c3];exact hr _ _ (by omega) (by omega) (by omega)
 ·rw [if_neg c1]
  have c2:¬ (a≤q∧q < i - 1):=by omega
  have c3:¬ (q=i - 1):=by omega
  rw [if_neg c2,if_neg c3]
  by_cases c4:p=i - 1
  ·rw [if_pos c4];exact h2 _ (by omega) (by omega)
  ·rw [if_neg c4];exact hr _ _ (by omega) (by omega) (by omega)
def MovedDown (d d':Array α) (m k:Nat):Prop:=d'.size=d.size∧∀ x:Nat,d'[x]! = if k < x∧x≤m then d[x - 1]! else if x=k then d[m]! else d[x]!
theorem MovedDown.start (d:Array α) (m:Nat):MovedDown d d m m:=⟨rfl,fun x=>by
 rw [if_neg (by omega)]
 split
 ·subst_vars;rfl
 ·rfl⟩
theorem MovedDown.step {d d':Array α} {m k:Nat} (h:MovedDown d d' m (k+1)) (hk:k+1≤m) (hm:m < d.size):MovedDown d (swp d' (k+1) k) m k:=by
 refine ⟨by rw [size_swp];exact h.1,fun x=>?_⟩
 rw [swp_get d' (by rw [h.1];omega) (by rw [h.1];omega)]
 by_cases h1:x=k
 ·subst h1
  have e1:¬ (x+1 < x+1∧x+1≤m):=by omega
  have e2:¬ (x < x∧x≤m):=by omega
  rw [if_pos rfl,h.2,if_neg e1,if_pos rfl,if_neg e2,if_pos rfl]
 ·rw [if_neg h1]
  by_cases h2:x=k+1
  ·subst h2
   have e1:¬ (k+1 < k∧k≤m):=by omega
   have e2:¬ (k=k+1):=by omega
   have e3:k < k+1∧k+1≤m:=by omega
   rw [if_pos rfl,h.2,if_neg e1,if_neg e2,if_pos e3,Nat.add_sub_cancel]
  ·rw [if_neg h2,h.2]
   by_cases h3:k+1 < x∧x≤m
   ·have e3:k < x∧x≤m:=by omega
    rw [if_pos h3,if_pos e3]
   ·have e3:¬ (k < x∧x≤m):=by omega
    rw [if_neg h3,if_neg h2,if_neg e3,if_neg h1]
theorem MovedDown.srt {d d':Array α} {a i m:Nat} (h:MovedDown d d' m i) (hai:a≤i) (him:i≤m) (hl:Srt tl a m d) (h1:∀ x,a≤x→x < i→tl d[x]! d[m]!) (h2:∀ x,i≤x→x < m→tl d[m]! d[x]!):Srt tl a (m+1) d':=by
 intro p q hp hpq hq
 rw [h.2,h.2]
 by_cases c1:i < p∧p≤m
 ·have c2:i < q∧q≤m:=by omega
  rw [if_pos c1,if_pos c2];exact hl _ _ (by omega) (by omega) (by omega)
 ·rw [if_neg c1]
  by_cases c2:i < q∧q≤m
  ·rw [if_pos c2]
   by_cases c3:p=i
   ·rw [if_pos c3];exact h2 _ (by omega) (by omega)
   ·rw [if_neg c3];exact hl _ _ (by omega) (by omega) (by omega)
  ·rw [if_neg c2]
   have c3:¬ (p=i):=by omega
   rw [if_neg c3]
   by_cases c4:q=i
   ·rw [if_pos c4];exact h1 _ (by omega) (by omega)
   ·rw [if_neg c4];exact hl _ _ (by omega) (by omega) (by omega)
structure Parts (d1:Array α) (a s mid e b:Nat):Prop where
 l:Mrg tl E d1 a s mid
 r:Mrg tl E d1 mid e b
 x:∀ i j,a≤i→i < mid→mid≤j→j < b→tl d1[i]! d1[j]!
theorem parts_of {d d1:Array α} {a m b s e:Nat} (ht:∀ x y z,tl x y→tl y z→tl x z) (h:Mrg tl E d a m b) (h1:a≤s) (h2:s≤m) (h3:m≤e) (h4:e≤b) (hr:Rotated d d1 s m e)
  (c1:a < s→e < b→tl d[s - 1]! d[e]!) (c2:m < e→s < m→tl d[e - 1]! d[s]!):Parts (tl:=tl) (E:=E) d1 a s (s+(e - m)) e b:=by
 have g1:∀ x,x < s→d1[x]! = d[x]!:=fun x hx=>by rw [hr.2];unfold rotF;rw [if_neg (by omega),if_neg (by omega)]
 have g2:∀ x,s≤x→x < s+(e - m)→d1[x]! = d[x+(m - s)]!:=fun x hx hy=>by rw [hr.2];unfold rotF;rw [if_pos (by omega)]
 have g3:∀ x,s+(e - m)≤x→x < e→d1[x]! = d[x - (e - m)]!:=fun x hx hy=>by rw [hr.2];unfold rotF;rw [if_neg (by omega),if_pos (by omega)]
 have g4:∀ x,e≤x→d1[x]! = d[x]!:=fun x hx=>by rw [hr.2];unfold rotF;rw [if_neg (by omega),if_neg (by omega)]
 refine ⟨⟨fun i j p q r=>?_,fun i j p q r=>?_,fun i j p q r t=>?_⟩,⟨fun i j p q r=>?_,fun i j p q r=>?_,fun i j p q r t=>?_⟩,fun i j p q r t=>?_⟩
 ·rw [g1 i (by omega),g1 j (by omega)];exact h.l _ _ p q (by omega)
 ·rw [g2 i (by omega) (by omega),g2 j (by omega) (by omega)];exact h.r _ _ (by omega) (by omega) (by omega)
 ·rw [g1 i (by omega),g2 j (by omega) (by omega)];exact h.e _ _ (by omega) (by omega) (by omega) (by omega)
 ·rw [g3 i (by omega) (by omega),g3 j (by omega) (by omega)];exact h.l _ _ (by omega) (by omega) (by omega)
 ·rw [g4 i (by omega),g4 j (by omega)];exact h.r _ _ (by omega) (by omega) (by omega)
 ·rw [g3 i (by omega) (by omega),g4 j (by omega)];exact h.e _ _ (by omega) (by omega) (by omega) (by omega)
 ·have H:=h
  have le1:∀ x,a≤x→x < s→x=s - 1∨tl d[x]! d[s - 1]!:=fun x p q=>by
   by_cases h:x=s - 1
   ·exact .inl h
   ·exact .inr (H.l _ _ p (by omega) (by omega))
  have le2:∀ x,m≤x→x < e→x=e - 1∨tl d[x]! d[e - 1]!:=fun x p q=>by
   by_cases h:x=e - 1
   ·exact .inl h
   ·exact .inr (H.r _ _ p (by omega) (by omega))
  have ge1:∀ x,s≤x→x < m→x=s∨tl d[s]! d[x]!:=fun x p q=>by
   by_cases h:x=s
   ·exact .inl h
   ·exact .inr (H.l _ _ (by omega) (by omega) (by omega))
  have ge2:∀ x,e≤x→x < b→x=e∨tl d[e]! d[x]!:=fun x p q=>by
   by_cases h:x=e
   ·exact .inl h
   ·exact .inr (H.r _ _ (by omega) (by omega) (by omega))
  have comb:∀ (u v:Nat) (y z:Nat),(u=y∨tl d[u]! d[y]!)→tl d[y]! d[z]!→(v=z∨tl d[z]! d[v]!)→tl d[u]! d[v]!:=fun u v y z q1 q2 q3=>by
   have:tl d[u]! d[z]!:=by
    rcases q1 with rfl | q1
    ·exact q2
    ·exact ht _ _ _ q1 q2
   rcases q3 with rfl | q3
   ·exact this
   ·exact ht _ _ _ this q3
  by_cases hi:i < s
  ·rw [g1 i hi]
   by_cases hj:j < e
   ·rw [g3 j r hj];exact h.l _ _ p (by omega) (by omega)
   ·rw [g4 j (by omega)];exact comb _ _ _ _ (le1 i p hi) (c1 (by omega) (by omega)) (ge2 j (by omega) t)
  ·rw [g2 i (by omega) q]
   by_cases hj:j < e
   ·rw [g3 j r hj];exact comb _ _ _ _ (le2 _ (by omega) (by omega)) (c2 (by omega) (by omega)) (ge1 _ (by omega) (by omega))
   ·rw [g4 j (by omega)];exact h.r _ _ (by omega) (by omega) (by omega)
theorem Mrg.keep {d d':Array α} {a m b:Nat} (h:Mrg tl E d a m b) (hm:m≤b) (ham:a≤m) (hk:∀ x,a≤x→x < b→d'[x]! = d[x]!):Mrg tl E d' a m b:=by
 refine ⟨fun i j p q r=>?_,fun i j p q r=>?_,fun i j p q r t=>?_⟩
 ·rw [hk i p (by omega),hk j (by omega) (by omega)];exact h.l _ _ p q r
 ·rw [hk i (by omega) (by omega),hk j (by omega) r];exact h.r _ _ p q r
 ·rw [hk i p (by omega),hk j (by omega) t];exact h.e _ _ p q r t
theorem Srt.keep {d d':Array α} {a b:Nat} (h:Srt tl a b d) (hk:∀ x,a≤x→x < b→d'[x]! = d[x]!):Srt tl a b d':=fun i j p q r=>by
 rw [hk i p (by omega),hk j (by omega) r];exact h i j p q r
theorem Srt.join {d:Array α} {a mid b:Nat} (h1:Srt tl a mid d) (h2:Srt tl mid b d) (hx:∀ i j,a≤i→i < mid→mid≤j→j < b→tl d[i]! d[j]!):Srt tl a b d:=fun i j p q r=>by
 by_cases hi:i < mid
 ·by_cases hj:j < mid
  ·exact h1 _ _ p q hj
  ·exact hx _ _ p hi (by omega) r
 ·exact h2 _ _ (by omega) q r
theorem cross_perm {d d':Array α} {a mid b a' b':Nat} (hb:b≤d.size) (hP:PermIn a' b' d d') (hin:(a'=a∧b'=mid)∨(a'=mid∧b'=b)) (ham:a≤mid) (hmb:mid≤b) (R:α→α→Prop) (hx:∀ i j,a≤i→i < mid→mid≤j→j < b→R d[i]! d[j]!):∀ i j,a≤i→i < mid→mid≤j→j < b→R d'[i]! d'[j]!:=by
 intro i j p q r t
 rcases hin with ⟨rfl,rfl⟩ | ⟨rfl,rfl⟩
 ·rw [hP.2.1 j (.inr r)]
  exact permIn_all d d' a' b' (fun x=>R x d[j]!) (by omega) hP (fun i' p' q'=>hx i' j p' q' r t) i p q
 ·rw [hP.2.1 i (.inl q)]
  exact permIn_all d d' a' b' (fun x=>R d[i]! x) hb hP (fun j' p' q'=>hx i j' p q p' q') j r t
def Bin (tl:α→α→Prop) (d:Array α) (lo hi:Nat) (y:α) (i j:Nat):Prop:=(∀ x,lo≤x→x < i→tl d[x]! y)∧∀ x,j≤x→x < hi→tl y d[x]!
theorem Bin.start (tl:α→α→Prop) (d:Array α) (lo hi:Nat) (y:α):Bin tl d lo hi y lo hi:=⟨fun x h1 h2=>by omega,fun x h1 h2=>by omega⟩
theorem Bin.up {d:Array α} {lo hi i j h:Nat} {y:α} (ht:∀ x y z,tl x y→tl y z→tl x z) (hb:Bin tl d lo hi y i j) (hs:Srt tl lo hi d) (h1:lo≤h) (h2:h < hi) (hl:tl d[h]! y):Bin tl d lo hi y (h+1) j:=
 ⟨fun x p q=>by
  by_cases e:x=h
  ·subst e;exact hl
  ·exact ht _ _ _ (hs x h p (by omega) h2) hl,hb.2⟩
theorem Bin.down {d:Array α} {lo hi i j h:Nat} {y:α} (ht:∀ x y z,tl x y→tl y z→tl x z) (hb:Bin tl d lo hi y i j) (hs:Srt tl lo hi d) (h1:lo≤h) (h2:h < hi) (hl:tl y d[h]!):Bin tl d lo hi y i h:=
 ⟨hb.1,fun x p q=>by
  by_cases e:x=h
  ·subst e;exact hl
  ·exact ht _ _ _ hl (hs h x h1 (by omega) q)⟩
def Bin2 (tl:α→α→Prop) (d:Array α) (s0 r0 p s r:Nat):Prop:=(∀ c,s0≤c→c < s→tl d[c]! d[p - c]!)∧∀ c,r≤c→c < r0→tl d[p - c]! d[c]!
theorem Bin2.start (tl:α→α→Prop) (d:Array α) (s0 r0 p:Nat):Bin2 tl d s0 r0 p s0 r0:=⟨fun x h1 h2=>by omega,fun x h1 h2=>by omega⟩
structure Sr (a m b mid s0 r0:Nat):Prop where
 am:a < m
 mb:m < b
 half:mid=(a+b) / 2
 st:(mid < m∧s0=mid+m - b∧r0=mid)∨(m≤mid∧s0=a∧r0=m)
theorem Sr.bounds {a m b mid s0 r0:Nat} (h:Sr a m b mid s0 r0):a≤s0∧s0≤r0∧r0≤m∧∀ c,s0≤c→c < r0→m≤mid+m - 1 - c∧mid+m - 1 - c < b:=by
 have h1:=h.am;have h2:=h.mb;have h3:=h.half
 rcases h.st with ⟨h4,h5,h6⟩ | ⟨h4,h5,h6⟩
 ·exact ⟨by omega,by omega,by omega,fun c h7 h8=>by omega⟩
 ·exact ⟨by omega,by omega,by omega,fun c h7 h8=>by omega⟩
theorem Bin2.up {d:Array α} {a m b mid s0 r0 s r c:Nat} (ht:∀ x y z,tl x y→tl y z→tl x z) (B:Sr a m b mid s0 r0) (hb:Bin2 tl d s0 r0 (mid+m - 1) s r) (hM:Mrg tl E d a m b) (h1:s0≤c) (h2:c < r0) (hl:tl d[c]! d[mid+m - 1 - c]!):Bin2 tl d s0 r0 (mid+m - 1) (c+1) r:=by
 obtain ⟨b1,b2,b3,b4⟩:=B.bounds
 refine ⟨fun x p q=>?_,hb.2⟩
 by_cases e:x=c
 ·subst e;exact hl
 ·have q1:=b4 c h1 h2
  have q2:=b4 x p (by omega)
  exact ht _ _ _ (ht _ _ _ (hM.l x c (by omega) (by omega) (by omega)) hl) (hM.r _ _ (by omega) (by omega) (by omega))
theorem Bin2.down {d:Array α} {a m b mid s0 r0 s r c:Nat} (ht:∀ x y z,tl x y→tl y z→tl x z) (B:Sr a m b mid s0 r0) (hb:Bin2 tl d s0 r0 (mid+m - 1) s r) (hM:Mrg tl E d a m b) (h1:s0≤c) (h2:c < r0) (hl:tl d[mid+m - 1 - c]! d[c]!):Bin2 tl d s0 r0 (mid+m - 1) s c:=by
 obtain ⟨b1,b2,b3,b4⟩:=B.bounds
 refine ⟨hb.1,fun x p q=>?_⟩
 by_cases e:x=c
 ·subst e;exact hl
 ·have q1:=b4 c h1 h2
  have q2:=b4 x (by omega) q
  exact ht _ _ _ (ht _ _ _ (hM.r _ _ (by omega) (by omega) (by omega)) hl) (hM.l c x (by omega) (by omega) (by omega))
theorem Bin2.turn {d d1:Array α} {a m b mid s0 r0 s:Nat} (ht:∀ x y z,tl x y→tl y z→tl x z) (B:Sr a m b mid s0 r0) (hb:Bin2 tl d s0 r0 (mid+m - 1) s s) (hM:Mrg tl E d a m b) (h1:s0≤s) (h2:s≤r0) :
  a≤s∧s≤m∧m≤mid+m - s∧mid+m - s≤b∧s+(mid+m - s - m)=mid∧(Rotated d d1 s m (mid+m - s)→Parts (tl:=tl) (E:=E) d1 a s mid (mid+m - s) b):=by
 obtain ⟨b1,b2,b3,b4⟩:=B.bounds
 have hm:=B.half
 have hs:=B.st
 have h3:=B.am
 have h4:=B.mb
 have e1:m≤mid+m - s:=by omega
 have e2:mid+m - s≤b:=by omega
 have e3:s+(mid+m - s - m)=mid:=by omega
 refine ⟨by omega,by omega,e1,e2,e3,fun hr=>?_⟩
 have:=parts_of (E:=E) ht hM (s:=s) (e:=mid+m - s) (by omega) (by omega) e1 e2 hr (fun q1 q2=>?_) (fun q1 q2=>?_)
 ·rw [e3] at this;exact this
 ·have:=hb.1 (s - 1) (by omega) (by omega)
  rw [show mid+m - 1 - (s - 1)=mid+m - s by omega] at this
  exact this
 ·have:=hb.2 s (Nat.le_refl _) (by omega)
  rw [show mid+m - 1 - s=mid+m - s - 1 by omega] at this
  exact this
end
end Go.Proofs.YtjekalilfhnpmaaGreatDoor.Stb
namespace Go.Proofs.YtjekalilfhnpmaaGreatDoor.Stb
open Go.Sort
set_option linter.unusedVariables false
set_option linter.unusedSimpArgs false
set_option linter.unusedSectionVars false
variable {α:Type} [Inhabited α]
section
variable (lt:α→α→Bool) (tag:α→Nat)
def tlb (x y:α):Bool:=lt x y || (!lt y x && decide (tag x < tag y))
def TL (x y:α):Prop:=tlb lt tag x y=true
def Ear (x y:α):Prop:=tag x < tag y
variable {lt tag}
theorem swo_tlb (h:SWO lt):SWO (tlb lt tag) where
 irrefl x:=by simp [tlb,h.irrefl]
 trans x y z:=by
  have t1:=h.trans x y z;have t2:=h.trans z x y;have t3:=h.trans y z x
  have n1:=h.ntrans x z y;have n2:=h.ntrans y x z;have n3:=h.ntrans z y x
  revert t1 t2 t3 n1 n2 n3
  cases e1:lt x y <;> cases e2:lt y x <;> cases e3:lt y z <;> cases e4:lt z y <;> cases e5:lt x z <;> cases e6:lt z x <;> simp [tlb,e1,e2,e3,e4,e5,e6] <;> omega
 ntrans x y z:=by
  have t1:=h.trans x y z;have t2:=h.trans z x y;have t3:=h.trans y z x;have t4:=h.trans z y x;have t5:=h.trans x z y;have t6:=h.trans y x z
  have n1:=h.ntrans x z y;have n2:=h.ntrans y x z;have n3:=h.ntrans z y x;have n4:=h.ntrans x y z;have n5:=h.ntrans y z x;have n6:=h.ntrans z x y
  revert t1 t2 t3 t4 t5 t6 n1 n2 n3 n4 n5 n6
  cases e1:lt x y <;> cases e2:lt y x <;> cases e3:lt y z <;> cases e4:lt z y <;> cases e5:lt x z <;> cases e6:lt z x <;> simp [tlb,e1,e2,e3,e4,e5,e6] <;> omega
theorem TL.of_lt {x y:α} (h:lt x y=true):TL lt tag x y:=by simp [TL,tlb,h]
theorem TL.of_ear {x y:α} (h:Ear tag x y) (h2:lt y x=false):TL lt tag x y:=by
 unfold Ear at h
 simp [TL,tlb,h,h2]
theorem TL.of_not {x y:α} (h:tlb lt tag y x=false) (hne:tag x≠tag y):TL lt tag x y:=by
 revert h
 unfold TL tlb
 cases e1:lt x y <;> cases e2:lt y x <;> simp [e1,e2]
 omega
theorem insInner_eq (a:Nat):∀ (j:Nat) (d:Array α),j < d.size→(∀ p,a≤p→p < j→Ear tag d[p]! d[j]!)→insInner lt a j d=insInner (tlb lt tag) a j d
 | 0,d,_,_=>rfl
 | j+1,d,hj,hE=>by
  unfold insInner
  by_cases ha:j+1 > a
  ·have h1:=hE j (by omega) (by omega)
   have e1:tlb lt tag d[j+1]! d[j]! = lt d[j+1]! d[j]!:=by
    unfold Ear at h1
    have:decide (tag d[j+1]! < tag d[j]!)=false:=decide_eq_false (by omega)
    simp [tlb,this]
   rw [e1]
   by_cases hl:lt d[j+1]! d[j]! = true
   ·rw [if_pos (by simp [ha,hl]),if_pos (by simp [ha,hl])]
    refine insInner_eq a j _ (by rw [size_swp];omega) (fun p hp hpj=>?_)
    rw [swp_get d (by omega) (by omega),swp_get d (by omega) (by omega)]
    have q1:¬ p=j:=by omega
    have q2:¬ p=j+1:=by omega
    rw [if_neg q1,if_neg q2,if_pos rfl]
    exact hE p hp (by omega)
   ·rw [if_neg (by simp [hl]),if_neg (by simp [hl])]
  ·rw [if_neg (by simp;omega),if_neg (by simp;omega)]
theorem insInner_perm (lt:α→α→Bool) (a:Nat):∀ (j:Nat) (d:Array α),a≤j→j < d.size→PermIn a (j+1) d (insInner lt a j d)
 | 0,d,_,_=>permIn_refl d _ _
 | j+1,d,ha,hj=>by
  unfold insInner
  split
  ·rename_i h
   have haj:a≤j:=by have:=(Bool.and_eq_true _ _▸h).1;simp at this;omega
   exact permIn_trans d _ _ _ _ (swp_permIn d a (j+2) (j+1) j (by omega) (by omega) (by omega) (by omega) (by omega)) (permIn_mono _ _ a (j+1) a (j+2) (by omega) (by omega) (by rw [size_swp];omega) (insInner_perm lt a j _ haj (by rw [size_swp];omega)))
  ·exact permIn_refl d _ _
theorem insOuter_eq (a b:Nat):∀ (k i:Nat) (d:Array α),b - i≤k→a≤i→b≤d.size→(∀ p q,a≤p→p < q→i≤q→q < b→Ear tag d[p]! d[q]!)→insOuter lt a b i d=insOuter (tlb lt tag) a b i d
 | 0,i,d,hk,_,_,_=>by
  unfold insOuter
  rw [if_neg (by omega),if_neg (by omega)]
 | k+1,i,d,hk,hai,hb,hE=>by
  unfold insOuter
  by_cases hi:i < b
  ·rw [if_pos hi,if_pos hi,insInner_eq (tag:=tag) a i d (by omega) (fun p h1 h2=>hE p i h1 h2 (Nat.le_refl _) hi)]
   have hP:=insInner_perm (tlb lt tag) a i d hai (by omega)
   refine insOuter_eq a b k (i+1) _ (by omega) (by omega) (by rw [hP.1];exact hb) (fun p q h1 h2 h3 h4=>?_)
   rw [hP.2.1 q (.inr (by omega))]
   by_cases hp:p < i+1
   ·exact permIn_all d _ a (i+1) (fun x=>Ear tag x d[q]!) (by omega) hP (fun p' g1 g2=>hE p' q g1 (by omega) (by omega) h4) p h1 hp
   ·rw [hP.2.1 p (.inr (by omega))]
    exact hE p q h1 h2 (by omega) h4
  ·rw [if_neg hi,if_neg hi]
def Dis (tag:α→Nat) (d:Array α):Prop:=(d.toList.map tag).Nodup
theorem Dis.perm {d d':Array α} {a b:Nat} (h:Dis tag d) (hb:b≤d.size) (hP:PermIn a b d d'):Dis tag d':=by
 have hp:=permIn_mono d d' a b 0 d.size (by omega) hb (Nat.le_refl _) hP
 have:=hp.2.2
 rw [Array.extract_size] at this
 rw [show d.size=d'.size from hp.1.symm,Array.extract_size] at this
 unfold Dis
 exact (this.map tag).nodup_iff.2 h
theorem Dis.ne {d:Array α} (h:Dis tag d) {i j:Nat} (hij:i < j) (hj:j < d.size):tag d[i]!≠tag d[j]!:=by
 unfold Dis at h
 rw [List.nodup_iff_pairwise_ne,List.pairwise_map,List.pairwise_iff_getElem] at h
 have:=h i j (by simpa using (by omega:i < d.size)) (by simpa using hj) hij
 simpa [getElem!_pos,hj,(by omega:i < d.size)] using this
theorem insertion_stable (hS:SWO lt) (d:Array α) (a b:Nat) (hab:a≤b) (hb:b≤d.size) (hD:Dis tag d) (hE:∀ p q,a≤p→p < q→q < b→Ear tag d[p]! d[q]!) :
  PermIn a b d (insertionSort lt d a b)∧Srt (TL lt tag) a b (insertionSort lt d a b):=by
 have e:insertionSort lt d a b=insertionSort (tlb lt tag) d a b:=by
  unfold insertionSort
  exact insOuter_eq a b b (a+1) d (by omega) (by omega) hb (fun p q h1 h2 h3 h4=>hE p q h1 h2 h4)
 rw [e]
 have h:=insertionSort_holds (swo_tlb (tag:=tag) hS) d a b hab hb
 have hD':=hD.perm hb h.1
 exact ⟨h.1,fun i j h1 h2 h3=>TL.of_not (h.2 i j h1 h2 h3) (hD'.ne h2 (by rw [h.1.1];omega))⟩
end
section
variable (tl E:α→α→Prop)
def Cut (d:Array α) (x:Nat):Prop:=∀ i j,i < x→x≤j→j < d.size→E d[i]! d[j]!
def Run (s:Nat) (d:Array α) (x:Nat):Prop:=Srt tl x (min (x+s) d.size) d∧Cut E d x
def Behind (s hi:Nat) (d:Array α):Prop:=∀ x,x < hi→x < d.size→s ∣ x→Run tl E s d x
def Ahead (s lo:Nat) (d:Array α):Prop:=∀ x,lo≤x→x < d.size→s ∣ x→Run tl E s d x
variable {tl E}
theorem Cut.perm {d d':Array α} {a b x:Nat} (h:Cut E d x) (hb:b≤d.size) (hP:PermIn a b d d') (hx:x≤a∨b≤x):Cut E d' x:=by
 intro i j hi hj hjs
 rw [hP.1] at hjs
 have step:∀ i j,i < x→x≤j→j < d.size→E d[i]! d'[j]!:=fun i j hi hj hjs=>by
  by_cases hc:a≤j∧j < b
  ·rcases hx with hx | hx
   ·exact permIn_all d d' a b (fun y=>E d[i]! y) hb hP (fun j' q1 q2=>h i j' hi (by omega) (by omega)) j hc.1 hc.2
   ·omega
  ·rw [hP.2.1 j (by omega)];exact h i j hi hj hjs
 by_cases hc:a≤i∧i < b
 ·rcases hx with hx | hx
  ·omega
  ·rw [hP.2.1 j (by omega)]
   exact permIn_all d d' a b (fun y=>E y d[j]!) hb hP (fun i' q1 q2=>h i' j (by omega) hj hjs) i hc.1 hc.2
 ·rw [hP.2.1 i (by omega)];exact step i j hi hj hjs
theorem Run.perm {d d':Array α} {s a b x:Nat} (h:Run tl E s d x) (hb:b≤d.size) (hP:PermIn a b d d') (hx:x+s≤a∨b≤x):Run tl E s d' x:=by
 have e:=hP.1
 refine ⟨?_,h.2.perm hb hP (by omega)⟩
 rw [e]
 exact h.1.keep fun y h1 h2=>hP.2.1 y (by omega)
theorem dvd_apart {s x y:Nat} (h1:s ∣ x) (h2:s ∣ y) (h:x < y):x+s≤y:=by
 have:s ∣ y - x:=Nat.dvd_sub h2 h1
 have:=Nat.le_of_dvd (by omega) this
 omega
theorem Behind.add {d d':Array α} {s a:Nat} (h:Behind tl E s a d) (hs:0 < s) (ha:s ∣ a) (hc:Cut E d a) (hP:PermIn a (min (a+s) d.size) d d') (hS:Srt tl a (min (a+s) d.size) d'):Behind tl E s (a+s) d':=by
 intro x hx hxs hd
 rw [hP.1] at hxs
 rcases Nat.lt_trichotomy x a with hl | rfl | hg
 ·have:=dvd_apart hd ha hl
  exact (h x hl hxs hd).perm (Nat.min_le_right _ _) hP (.inl this)
 ·exact ⟨by rw [hP.1];exact hS,hc.perm (Nat.min_le_right _ _) hP (.inl (Nat.le_refl _))⟩
 ·have:=dvd_apart ha hd hg;omega
theorem Ahead.skip {d d':Array α} {s a b:Nat} (h:Ahead tl E s a d) (hab:a≤b) (hP:PermIn a (min b d.size) d d'):Ahead tl E s b d':=by
 intro x hx hxs hd
 rw [hP.1] at hxs
 exact (h x (by omega) hxs hd).perm (Nat.min_le_right _ _) hP (.inr (by omega))
theorem Ahead.mrg {d:Array α} {s a:Nat} (h:Ahead tl E s a d) (hs:0 < s) (ha:s ∣ a) (hm:a+s < d.size):Mrg tl E d a (a+s) (min (a+s+s) d.size) where
 l:=by
  have:=(h a (Nat.le_refl _) (by omega) ha).1
  rwa [Nat.min_eq_left (by omega)] at this
 r:=(h (a+s) (by omega) hm (Nat.dvd_add ha (Nat.dvd_refl _))).1
 e:=fun i j h1 h2 h3 h4=>(h (a+s) (by omega) hm (Nat.dvd_add ha (Nat.dvd_refl _))).2 i j h2 h3 (by omega)
theorem Ahead.cut {d:Array α} {s a:Nat} (h:Ahead tl E s a d) (ha:s ∣ a) (hm:a < d.size):Cut E d a:=(h a (Nat.le_refl _) hm ha).2
theorem Behind.last {d:Array α} {s a:Nat} (h:Behind tl E (2*s) a d) (hA:Ahead tl E s a d) (hs:0 < s) (ha:2*s ∣ a) (hz:d.size≤a+s):Behind tl E (2*s) d.size d:=by
 intro x hx _ hd
 rcases Nat.lt_trichotomy x a with hl | rfl | hg
 ·exact h x hl hx hd
 ·have h2:=hA x (Nat.le_refl _) hx (Nat.dvd_trans ⟨2,by omega⟩ ha)
  refine ⟨?_,h2.2⟩
  have h3:=h2.1
  rw [Nat.min_eq_right hz] at h3
  rw [Nat.min_eq_right (by omega)]
  exact h3
 ·have:=dvd_apart ha hd hg;omega
theorem Behind.all {d:Array α} {s hi:Nat} (h:Behind tl E s hi d) (hz:d.size≤hi):Behind tl E s d.size d:=fun x h1 h2 h3=>h x (by omega) h2 h3
theorem Behind.ahead {d:Array α} {s:Nat} (h:Behind tl E s d.size d):Ahead tl E s 0 d:=fun x _ h2 h3=>h x h2 h2 h3
theorem Behind.whole {d:Array α} {s:Nat} (h:Behind tl E s d.size d) (hz:d.size≤s):Srt tl 0 d.size d:=by
 by_cases h0:d.size=0
 ·intro i j h1 h2 h3;omega
 ·have:=(h 0 (by omega) (by omega) (Nat.dvd_zero _)).1
  rwa [Nat.min_eq_right (by omega)] at this
theorem Behind.none (tl E:α→α→Prop) (s:Nat) (d:Array α):Behind tl E s 0 d:=fun x h1=>by omega
end
end Go.Proofs.YtjekalilfhnpmaaGreatDoor.Stb
