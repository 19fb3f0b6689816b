/- bit: bytes of words, signs. -/
import Derived.Test.YtjhdodkagchhkaaGreatDoorRailA
import Derived.Test.YtjhdodkagchhkaaGreatDoorAC13
import Derived.Test.YtjhdodkagchhkaaGreatDoorAC9
import Derived.Test.YtjhdodkagchhkaaGreatDoorAEq
import Derived.Test.YtjhdodkagchhkaaGreatDoorRailG
set_option linter.unusedSimpArgs false
set_option linter.unusedVariables false
namespace Go.Rail
open Go Go.Proofs Tryz
set_option maxHeartbeats 400000
set_option maxRecDepth 4000
attribute [local irreducible] OpK G W LW wpListIn Exit.then Exit.inBlock Post rounds opRun bodyPostM intOp
set_option maxHeartbeats 4000000
attribute [local irreducible] lexN cmpW Word.nat subW mulW
def byN (n:Nat):List UInt8:=(List.range 32).map fun k=>UInt8.ofNat (n/2^(8*(31-k))%256)
theorem byN_len (n:Nat):(byN n).length=32:=by simp [byN]
def u8E (xs:List UInt8):List (List Value):=xs.map fun (x:UInt8)=>[.int .u8 ((x.toNat:Nat):Int)]
theorem u8E_len (xs:List UInt8):(u8E xs).length=xs.length:=by simp [u8E]
theorem u8E_at (xs:List UInt8) (k:Nat) (h:k<(u8E xs).length) (h':k<xs.length):(u8E xs)[k]=[.int .u8 ((xs[k].toNat:Nat):Int)]:=by simp [u8E]
theorem u8E_one (xs:List UInt8) : ∀ vs∈u8E xs,vs.length=1:=by
 intro vs h
 obtain ⟨p,_,rfl⟩:=List.mem_map.1 h
 rfl
theorem byN_at (n k:Nat) (h:k<32):(byN n)[k]? = some (UInt8.ofNat (n/2^(8*(31-k))%256)):=by simp [byN,h]
theorem oct1_spec (b n:Nat):IterR prog 57 [.pointer (some ⟨b,0,none⟩)] (u8E (byN n)) [fBlk b (numC 4 n) 24]:=by
 intro l T Z hy s0 hs0
 have hy' : ∀ k,k<32 → ∀ s,T (31-k) s→FnY prog l [.int .u8 ((n/2^(8*k)%256:Nat):Int)] s.1 s.2 (YRr (T (32-k)) Z):=fun k h s hs=>by
  have:=hy (31-k) (by rw [u8E_len,byN_len];omega) s hs
  have e:=byN_at n (31-k) oM
  obtain ⟨_,e⟩:=List.getElem?_eq_some_iff.1 e
  rw [u8E_at _ _ _ (by rw [byN_len];omega),e,show 31-(31-k)=k from by omega,show 31-k+1=32-k from by omega,UInt8.toNat_ofNat'] at this
  rwa [Nat.mod_mod] at this
 rw [u8E_len,byN_len]
 clear hy
 show Fn _ _ _ (fBlk b (numC 4 n) 24::s0.1) _ _
 refine Fn.enter func57 rfl ntmps57 oI (fun I0 w0 => ?_)
 repeat refine st ?_;try intro
 refine W.lp (fun (i:Nat × St)=>(fBlk b (numC 4 n) 24::i.2.1,[(0,.func (.yield l) #[] #[]),(1,.pointer (some ⟨b,0,none⟩)),(3,.int .i64 ((i.1:Int)-1))],i.2.2)) (fun i=>i.1≤32∧T (32-i.1) i.2) (fun i=>i.1) (32,s0) ?_ (h0:=⟨Nat.le_refl _,by rw [Nat.sub_self];exact hs0⟩) (hΦ:=⟨fun I hp φ hφ=>hp φ hφ⟩)
 rintro ⟨i,sa⟩ ⟨hi,hsa⟩
 dsimp only at hi hsa ⊢
 by_cases hi0:i=0
 ·subst hi0
  repeat refine st ?_;try intro
  exact G.fin rfl .nil (Φ':=sa.1) (M':=sa.2) ⟨fun I hp φ hφ=>hp φ (.tail _ hφ)⟩ oZ (.inl hsa)
 obtain ⟨j,rfl⟩ : ∃ j,i=j+1:=⟨i-1,by omega⟩
 rw [show (((j+1:Nat):Int)-1)=(j:Int) from by omega]
 have hyk:=hy' j oM sa (by rw [show 31-j=32-(j+1) from by omega];exact hsa)
 repeat refine st ?_;try intro
 have e:n/2^(64*(j/8))%18446744073709551616/2^(j%8*8)%256=n/2^(8*j)%256:=by
  have e1:n/2^(64*(j/8))%18446744073709551616/2^(j%8*8)=n/2^(64*(j/8))/2^(j%8*8)%2^(64-j%8*8):=by
   rw [show (18446744073709551616:Nat)=2^(j%8*8)*2^(64-j%8*8) from by rw [← Nat.pow_add,show j%8*8+(64-j%8*8)=64 from by omega],Nat.mod_mul_right_div_self]
  have e2:(2:Nat)^(64-j%8*8)=256*2^(56-j%8*8):=by
   rw [show (256:Nat)=2^8 from rfl,← Nat.pow_add,show 8+(56-j%8*8)=64-j%8*8 from by omega]
  rw [e1,e2,Nat.mod_mul_right_mod,Nat.div_div_eq_div_mul,← Nat.pow_add,show 64*(j/8)+j%8*8=8*j from by omega]
 rw [e]
 repeat refine st ?_;try intro
 refine o_yieldR (Mr:=[]) rfl rfl rfl rfl hyk (fun I hp φ hφ=>hp φ (by simp [hφ])) oI ?_ ?_
 ·intro st2 hst2
  repeat refine st ?_;try intro
  refine G.ag (S:=Nat × St) (j,st2) (hpre:=⟨by dsimp only;omega,hst2⟩) (hΦ:=⟨fun I hp φ hφ => ?_⟩) (hM:=by simp)
  rcases List.mem_cons.1 hφ with rfl|hφ
  ·exact hp _ oI
  ·exact hp _ (by simp [hφ])
 ·intro s hs
  repeat refine st ?_;try intro
  exact G.ret rfl .nil (Φ':=s.1) (M':=s.2) ⟨fun I hp φ hφ=>hp φ (by simp [hφ])⟩ oI (.inr hs)
theorem appB_spec (gf:FuncId) [HasFn prog gf] (lb:List Value) (xs:List UInt8) (Φi:List Fa) (hit:IterR prog gf lb (u8E xs) Φi) (hx:xs.length≤100000):Fn prog 56 [.slice none 0 0,.func (.func gf) #[] lb.toArray] Φi [] (ROwn 5 xs):=by
 refine Fn.enter func56 rfl ntmps56 oI (fun I0 w0 => ?_)
 repeat refine st ?_;try intro
 rename_i b2
 refine W.rangeFuncR (enc:=u8E xs) (ps:=[7]) (Φi:=Φi) (Mr:=[]) (fun k s => ∃ w o,IsOwn 1 w (xs.take k).length o∧s=([fRow (ocells o) (xs.take k)],(b2,Ob [w] 26)::ownM 5 o)) (fun _ _=>False) rfl hit oE (u8E_one xs) ⟨fun I hp=>hp⟩ ([fRow ([]:List Value) ([]:List UInt8)],[(b2,Ob [.slice none 0 0] 26)]) ⟨_,none,⟨rfl,rfl⟩,rfl⟩ oY oP ?_ ?_ ?_
 ·rintro l rec I0' w0' k hk _ ⟨w,o,hown,rfl⟩
  rw [u8E_len] at hk
  have htk:xs.take k++[xs[k]]=xs.take (k+1):=by rw [List.take_succ_eq_append_getElem hk]
  have htl:(xs.take k).length=k:=by rw [List.length_take];omega
  dsimp only
  rw [u8E_at xs k (by rw [u8E_len];exact hk) hk]
  generalize xs[k]=e at htk ⊢
  show W _ _ _ _ ((7,.int .u8 ((e.toNat:Nat):Int))::_) _
  repeat refine st ?_;try intro
  refine G.begin (by rfl) ?_
  repeat refine st ?_;try intro
  refine o_app2 (Mr:=[_,_]) o (xs:=xs.take k) (ys:=[e]) hown ⟨by simp;omega,by simp;omega,rfl⟩ rfl rfl rfl rfl oY oY oP ?_
  intro w' o' hown'
  rw [htk] at hown' ⊢
  refine nA ?_
  repeat refine st ?_;try intro
  refine o_store (vs:=[w']) (cs':=[w']) rfl rfl rfl (own_cell hown').1 rfl (Nat.le_of_ble_eq_true rfl) (own_cell hown').2 rfl ?_
  repeat refine st ?_;try intro
  refine G.roundEnd oY (Φ':=[fRow (ocells o') (xs.take (k+1))]) (M'':=(b2,Ob [w'] 26)::ownM 5 o') ?_ oY (by first|exact List.Sublist.refl _|exact .cons _ oZ)
  exact Or.inl ⟨rfl,([fRow (ocells o') (xs.take (k+1))],(b2,Ob [w'] 26)::ownM 5 o'),⟨w',o',hown',rfl⟩,rfl⟩
 ·rintro D _ ⟨w,o,hown,rfl⟩
  rw [u8E_len,List.take_length] at hown ⊢
  refine G.perm ?_ oH
  refine nA ?_
  repeat refine st ?_;try intro
  refine G.unmark oY ?_
  exact G.ret rfl (.cons (.tmp rfl) .nil) (Φ':=[fRow (ocells o) xs]) (M':=ownM 5 o) oY (List.sublist_cons_self _ _) ⟨o,hown,rfl,rfl⟩
 ·intro D c s h
  exact h.elim
theorem collB_spec (gf:FuncId) [HasFn prog gf] (lb:List Value) (xs:List UInt8) (Φi:List Fa) (hit:IterR prog gf lb (u8E xs) Φi) (hx:xs.length≤100000):FnD prog 18 [.func (.func gf) #[] lb.toArray] Φi (fun v=>[fRp v xs]):=by
 refine Fn.given (e:=5) ?_
 refine Fn.enter func18 rfl ntmps18 oI (fun I0 w0 => ?_)
 repeat refine st ?_;try intro
 refine o_callO (Φc:=Φi) rfl rfl rfl rfl (appB_spec gf lb xs Φi hit hx) (hΦ:=⟨fun I hp=>hp⟩) ?_
 intro v' o hown
 repeat refine st ?_;try intro
 refine G.ret rfl (.cons (.tmp rfl) .nil) (Φ':=[fRow (ocells o) xs]) (M':=ownM 5 o) oY oZ ⟨o,hown,rfl,rfl⟩
theorem octs_spec (n:Nat):Fn prog 19 [.agg (numC 4 n).toArray] [] [] (fun u Φ' M' => ∃ b,u = .func (.func 57) #[] #[.pointer (some ⟨b,0,none⟩)]∧Φ'=[fBlk b (numC 4 n) 24]∧M'=[]):=by
 refine Fn.enter func19 rfl ntmps19 oI (fun I0 w0 => ?_)
 repeat refine st ?_;try intro
 rename_i b
 refine o_func rfl rfl rfl rfl ?_
 repeat refine st ?_;try intro
 refine G.give b (cs:=numC 4 n) (t:=24) ?_
 exact G.ret rfl (.cons (.tmp rfl) .nil) (Φ':=[fBlk b (numC 4 n) 24]) (M':=[]) oY oN ⟨b,rfl,rfl,rfl⟩
theorem wbytes_spec (a:Word):FnV prog 6 [a.v] [] (.string (ba (byN a.num))):=by
 rw [v_num]
 refine Fn.enter func6 rfl ntmps6 oI (fun I0 w0 => ?_)
 repeat refine st ?_;try intro
 refine OpK.call rfl rfl rfl rfl (octs_spec a.num) oY (Mr:=_) oP ?_
 rintro u Φ' Mc' ⟨b,rfl,rfl,rfl⟩
 refine nA ?_
 repeat refine st ?_;try intro
 refine o_callD rfl rfl rfl rfl (collB_spec _ [.pointer (some ⟨b,0,none⟩)] (byN a.num) _ (oct1_spec b a.num) (by rw [byN_len];decide)) ?_
 intro v
 repeat refine st ?_;try intro
 refine G.retV ?_
 rfl
def byteW (i a:Word):Word:=if 32≤i.num then .zero else .nat (a.num/2^(8*(31-i.num))%256)
theorem bbyte_spec (a b:Word):FnV prog 127 [a.v,b.v] [] (byteW a b).v:=by
 have hl:=limit_spec a 32 oE
 have hb:=wbytes_spec b
 refine Fn.enter func127 rfl ntmps127 oI (fun I0 w0 => ?_)
 by_cases h:32≤a.num
 ·rw [show min a.num 32=32 from by omega] at hl
  repeat refine st ?_;try intro
  refine cV hl ?_
  repeat refine st ?_;try intro
  repeat refine st ?_;try intro
  refine G.retV ?_
  rw [byteW,if_pos h];rfl
 ·rw [show min a.num 32=a.num from by omega] at hl
  obtain ⟨hlt,he⟩:=List.getElem?_eq_some_iff.1 (byN_at b.num a.num oM)
  have hof:=wof_spec (b.num/2^(8*(31-a.num))%256) oM
  have e1:(UInt8.ofNat (b.num/2^(8*(31-a.num))%256)).toNat=b.num/2^(8*(31-a.num))%256:=by
   rw [UInt8.toNat_ofNat',Nat.mod_mod]
  repeat refine st ?_;try intro
  refine cV hl ?_
  repeat refine st ?_;try intro
  refine cV hb ?_
  repeat refine st ?_;try intro
  rw [he,e1]
  repeat refine st ?_;try intro
  refine cV hof ?_
  repeat refine st ?_;try intro
  refine G.retV ?_
  rw [byteW,if_neg h];rfl
def sarW (by_ a:Word):Word:=if negW a then notW (shrW by_ (notW a)) else shrW by_ a
instance (a b:Word) {Φ:List Fa}:CV prog 128 [a.v,b.v] Φ (shlW a b).v:=⟨Fn.weaken (bshl_spec a b)⟩
instance (a b:Word) {Φ:List Fa}:CV prog 129 [a.v,b.v] Φ (shrW a b).v:=⟨Fn.weaken (bshr_spec a b)⟩
theorem bsar_spec (a b:Word):FnV prog 130 [a.v,b.v] [] (sarW a b).v:=by
 refine Fn.enter func130 rfl ntmps130 oI (fun I0 w0 => ?_)
 unfold sarW
 cases h:negW b with
 | false =>
  repeat refine st ?_;try intro
  rw [h]
  repeat refine st ?_;try intro
  refine G.retV ?_
  rfl
 | true =>
  repeat refine st ?_;try intro
  rw [h]
  repeat refine st ?_;try intro
  refine W.drawA 3 [dq _,dq _,dq _] [[],[],[1]] [0,2] (hrest:=fun c=>nrm ?_)
  repeat refine st ?_;try intro
  refine G.retV ?_
  rfl
def signW (i a:Word):Word:=sarW (.nat (248-8*min i.num 31)) (shlW (.nat (248-8*min i.num 31)) a)
instance (a b:Word) {Φ:List Fa}:CV prog 130 [a.v,b.v] Φ (sarW a b).v:=⟨Fn.weaken (bsar_spec a b)⟩
theorem bsign_spec (a b:Word):FnV prog 116 [a.v,b.v] [] (signW a b).v:=by
 have hl:=limit_spec a 31 oE
 obtain ⟨n,hn⟩ : ∃ n,n=min a.num 31:=⟨_,rfl⟩
 have hof:=wof_spec (256-8*(n+1)) oM
 unfold signW
 rw [← hn] at hl ⊢
 rw [show 248-8*n=256-8*(n+1) from by omega]
 refine Fn.enter func116 rfl ntmps116 oI (fun I0 w0 => ?_)
 repeat refine st ?_;try intro
 refine cV hl ?_
 repeat refine st ?_;try intro
 refine cV hof ?_
 repeat refine st ?_;try intro
 refine W.drawA 4 [dq _,dq _,dq _,dq _] [[],[],[],[1,2]] [0,3] (hrest:=fun c=>nrm ?_)
 repeat refine st ?_;try intro
 refine G.retV ?_
 rfl
end Go.Rail
namespace Go.Rail
open Go Go.Proofs Tryz
set_option maxHeartbeats 400000
set_option maxRecDepth 4000
attribute [local irreducible] OpK G W LW wpListIn Exit.then Exit.inBlock Post rounds opRun bodyPostM intOp
set_option maxHeartbeats 16000000
set_option maxRecDepth 20000
theorem low_spec:Fn prog 67 [] [] [] (RMapV (rowsV rowsLow)):=by
 refine Fn.enter func67 rfl ntmps67 oI (fun I0 w0 => ?_)
 repeat refine st ?_;try intro
 refine o_makeMapV rfl rfl ?_
 intro b
 repeat (first|refine st ?_|refine o_insV rfl rfl rfl rfl kR ?_)
 exact G.ret rfl (.cons (.tmp rfl) .nil) (Φ':=[]) (M':=[(b,MapV (rowsV rowsLow))]) oY oZ ⟨b,rfl,rfl,rfl⟩
theorem high_spec:Fn prog 68 [] [] [] (RMapV (rowsV rowsHigh)):=by
 refine Fn.enter func68 rfl ntmps68 oI (fun I0 w0 => ?_)
 repeat refine st ?_;try intro
 refine o_makeMapV rfl rfl ?_
 intro b
 repeat (first|refine st ?_|refine o_insV rfl rfl rfl rfl kR ?_)
 exact G.ret rfl (.cons (.tmp rfl) .nil) (Φ':=[]) (M':=[(b,MapV (rowsV rowsHigh))]) oY oZ ⟨b,rfl,rfl,rfl⟩
theorem lookup_spec (n b b1 b2:Nat) (l1 l2:List (Nat × Row)):Fn prog 66 [.int .u8 (n:Int),.slice (some ⟨b,0,none⟩) 2 2] [fBlk b [.map (some b1),.map (some b2)] 148] [(b1,MapV (rowsV l1)),(b2,MapV (rowsV l2))]
  (fun u Φ' M'=>u = .tuple #[rowV (((findR l1 n).or (findR l2 n)).getD noRow),.bool ((findR l1 n).or (findR l2 n)).isSome]∧Φ'=[]∧M'=[]):=by
 have g1:=getV_rows l1 n
 have g2:=getV_rows l2 n
 refine Fn.enter func66 rfl ntmps66 oI (fun I0 w0 => ?_)
 repeat refine st ?_;try intro
 refine W.loopN 3 ?_
 repeat refine st ?_;try intro
 refine o_idxO rfl rfl rfl rfl oE oE (o':=0) oE ?_
 repeat refine st ?_;try intro
 cases h1:findR l1 n with
 | some r =>
  rw [h1] at g1
  refine o_lookV (l:=rowsV l1) rfl rfl rfl rfl oI (by rw [g1]) (by rw [g1]) ?_
  repeat refine st ?_;try intro
  refine G.ret rfl (.cons (.cellA rfl rfl) (.cons (.tmp rfl) .nil)) (Φ':=[]) (M':=[]) oY oN ⟨?_,rfl,rfl⟩
  rfl
 | none =>
  rw [h1] at g1
  refine o_lookV (l:=rowsV l1) rfl rfl rfl rfl oI (by rw [g1]) (by rw [g1]) ?_
  repeat refine st ?_;try intro
  refine o_idxO rfl rfl rfl rfl oE oE (o':=1) oE ?_
  repeat refine st ?_;try intro
  cases h2:findR l2 n with
  | some r =>
   rw [h2] at g2
   refine o_lookV (l:=rowsV l2) rfl rfl rfl rfl oI (by rw [g2]) (by rw [g2]) ?_
   repeat refine st ?_;try intro
   refine G.ret rfl (.cons (.cellA rfl rfl) (.cons (.tmp rfl) .nil)) (Φ':=[]) (M':=[]) oY oN ⟨?_,rfl,rfl⟩
   rfl
  | none =>
   rw [h2] at g2
   refine o_lookV (l:=rowsV l2) rfl rfl rfl rfl oI (by rw [g2]) (by rw [g2]) ?_
   repeat refine st ?_;try intro
   refine G.ret rfl (.cons (.cellA rfl rfl) (.cons (.tmp rfl) .nil)) (Φ':=[]) (M':=[]) oY oN ⟨?_,rfl,rfl⟩
   rfl
theorem ssmall_spec (n:Nat) (hn:n<100):FnV prog 330 [.int .i64 (n:Int)] [] (.string (ba (decN n))):=by
 refine Fn.enter func330 rfl ntmps330 oI (fun I0 w0 => ?_)
 unfold decN
 by_cases h:n<10
 ·rw [if_pos h]
  repeat refine st ?_;try intro
  refine G.retV ?_
  refine congrArg (fun l=>Value.string (ba l)) ?_
  clear I0 w0
  revert n
  exact of_decide_eq_true kR
 ·rw [if_neg h]
  repeat refine st ?_;try intro
  refine G.retV ?_
  refine congrArg (fun l=>Value.string (ba l)) ?_
  clear I0 w0
  revert n
  exact of_decide_eq_true kR
theorem fmt_spec (n:Nat) (hn:n<100):FnV prog 294 [.int .i64 (n:Int),.int .i64 10] [] (.string (ba (decN n))):=by
 have hs:=ssmall_spec n hn
 refine Fn.enter func294 rfl ntmps294 oI (fun I0 w0 => ?_)
 repeat refine st ?_;try intro
 refine cV hs ?_
 repeat refine st ?_;try intro
 refine G.retV ?_
 rfl
theorem itoa2_spec (n:Nat) (hn:n<100):FnV prog 227 [.int .i64 (n:Int)] [] (.string (ba (decN n))):=by
 have hs:=fmt_spec n hn
 refine Fn.enter func227 rfl ntmps227 oI (fun I0 w0 => ?_)
 repeat refine st ?_;try intro
 refine cV hs ?_
 repeat refine st ?_;try intro
 refine G.retV ?_
 rfl
theorem itoa_spec (n:Nat) (hn:n<100):FnV prog 133 [.int .i64 (n:Int)] [] (.string (ba (decN n))):=by
 have hs:=itoa2_spec n hn
 refine Fn.enter func133 rfl ntmps133 oI (fun I0 w0 => ?_)
 repeat refine st ?_;try intro
 refine cV hs ?_
 repeat refine st ?_;try intro
 refine G.retV ?_
 rfl
theorem decN_len (n:Nat):(decN n).length≤2:=by unfold decN;split<;>simp
theorem numbered_spec (l:List UInt8) (n:Nat) (hn:n<100) (hl:l.length≤10):FnV prog 65 [.string (ba l),.int .i64 (n:Int)] [] (.string (ba (l++decN n))):=by
 have hs:=itoa_spec n hn
 have:=decN_len n
 refine Fn.enter func65 rfl ntmps65 oI (fun I0 w0 => ?_)
 repeat refine st ?_;try intro
 refine cV hs ?_
 repeat refine st ?_;try intro
 refine G.retV ?_
 rfl
theorem info_spec (n:Nat) (hn:n<256):FnV prog 27 [.int .u8 (n:Int)] [] (infoV n):=by
 refine Fn.enter func27 rfl ntmps27 oI (fun I0 w0 => ?_)
 unfold infoV infoN
 by_cases h1:96≤n∧n≤127
 ·rw [if_pos h1]
  have hs:=numbered_spec [80,85,83,72] (n-95) oM oE
  repeat refine st ?_;try intro
  refine cV hs ?_
  repeat refine st ?_;try intro
  refine G.retV ?_
  rfl
 rw [if_neg h1]
 by_cases h2:128≤n∧n≤143
 ·rw [if_pos h2]
  have hs:=numbered_spec [68,85,80] (n-127) oM oE
  repeat refine st ?_;try intro
  refine cV hs ?_
  repeat refine st ?_;try intro
  refine G.retV ?_
  rw [show n-126=n-127+1 from by omega]
  rfl
 rw [if_neg h2]
 by_cases h3:144≤n∧n≤159
 ·rw [if_pos h3]
  have hs:=numbered_spec [83,87,65,80] (n-143) oM oE
  repeat refine st ?_;try intro
  refine cV hs ?_
  repeat refine st ?_;try intro
  refine G.retV ?_
  rw [show n-142=n-143+1 from by omega]
  rfl
 rw [if_neg h3]
 by_cases h4:160≤n∧n≤164
 ·rw [if_pos h4]
  have hs:=numbered_spec [76,79,71] (n-160) oM oE
  repeat refine st ?_;try intro
  refine cV hs ?_
  repeat refine st ?_;try intro
  refine G.retV ?_
  rw [show n-158=n-160+2 from by omega,show n-159=n-160+1 from by omega]
  rfl
 rw [if_neg h4]
 unfold tabN
 have h5:n<96∨164<n:=by omega
 have hl:=fun b b1 b2=>lookup_spec n b b1 b2 rowsLow rowsHigh
 generalize (findR rowsLow n).or (findR rowsHigh n)=R at hl ⊢
 rcases h5 with h5|h5
 ·repeat refine st ?_;try intro
  refine o_callM rfl rfl rfl rfl low_spec ?_
  intro b1
  repeat refine st ?_;try intro
  refine o_callM rfl rfl rfl rfl high_spec ?_
  intro b2
  repeat refine st ?_;try intro
  refine o_litN (cs:=[.map (some b1),.map (some b2)]) rfl rfl rfl rfl rfl rfl rfl ?_
  intro b3
  repeat refine st ?_;try intro
  refine OpK.call rfl rfl rfl rfl (hl b3 b1 b2) oY (Mr:=_) (.swap _ _ _) ?_
  rintro u Φ' Mc' ⟨rfl,rfl,rfl⟩
  refine nA ?_
  repeat refine st ?_;try intro
  refine G.ret rfl (.cons (.cellA rfl rfl) (.cons (.tmp rfl) .nil)) (Φ':=[]) (M':=[]) oY oN ⟨?_,rfl,rfl⟩
  rfl
 ·repeat refine st ?_;try intro
  refine o_callM rfl rfl rfl rfl low_spec ?_
  intro b1
  repeat refine st ?_;try intro
  refine o_callM rfl rfl rfl rfl high_spec ?_
  intro b2
  repeat refine st ?_;try intro
  refine o_litN (cs:=[.map (some b1),.map (some b2)]) rfl rfl rfl rfl rfl rfl rfl ?_
  intro b3
  repeat refine st ?_;try intro
  refine OpK.call rfl rfl rfl rfl (hl b3 b1 b2) oY (Mr:=_) (.swap _ _ _) ?_
  rintro u Φ' Mc' ⟨rfl,rfl,rfl⟩
  refine nA ?_
  repeat refine st ?_;try intro
  refine G.ret rfl (.cons (.cellA rfl rfl) (.cons (.tmp rfl) .nil)) (Φ':=[]) (M':=[]) oY oN ⟨?_,rfl,rfl⟩
  rfl
end Go.Rail
