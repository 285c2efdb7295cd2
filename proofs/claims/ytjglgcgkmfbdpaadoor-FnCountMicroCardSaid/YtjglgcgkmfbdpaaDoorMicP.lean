/- Microstates of a shell: a microstate's sums, all of them in order, and the terms; all by literal lists. -/
import Derived.Test.YtjglgcgkmfbdpaaDoorT1
namespace Go.Proofs.YtjglgcgkmfbdpaaDoor
open Go.RowKit

/-- How many bits are set; the sums over the set bits of half the place, and of its rest. -/
def pop (r : Nat) : Nat := (List.range 10).countP fun i => r.testBit i
def hsum (r : Nat) : Nat := (((List.range 10).filter fun i => r.testBit i).map fun i => i / 2).sum
def rsum (r : Nat) : Nat := (((List.range 10).filter fun i => r.testBit i).map fun i => i % 2).sum
def tzb (r : Nat) : Nat := ((List.range 10).find? fun i => r.testBit i).getD 64
def msum (l : Int) (r : Nat) : T2 := ((hsum r : Int) - l * (pop r : Int), 2 * (rsum r : Int) - (pop r : Int))
def mst (l : Int) (n K : Nat) : List T2 := ((List.range K).filter fun r => pop r == n).map (msum l)
theorem mst_succ_yes {l : Int} {n K : Nat} (h : pop K = n) : mst l n (K + 1) = mst l n K ++ [msum l K] := by
  simp [mst, List.range_succ, List.filter_append, h]
theorem mst_succ_no {l : Int} {n K : Nat} (h : pop K ≠ n) : mst l n (K + 1) = mst l n K := by
  simp [mst, List.range_succ, List.filter_append, h]
theorem mst_len (l : Int) (n K : Nat) : (mst l n K).length ≤ K := by
  unfold mst; rw [List.length_map]; have := List.length_filter_le (fun r => pop r == n) (List.range K); rwa [List.length_range] at this
/-- One bit is taken away. -/
theorem low_step : ∀ r : Fin 1024, r.val ≠ 0 → (r.val &&& (r.val - 1)) < r.val ∧ tzb r.val < 10 ∧ pop r.val = pop (r.val &&& (r.val - 1)) + 1 ∧
    hsum r.val = hsum (r.val &&& (r.val - 1)) + tzb r.val / 2 ∧ rsum r.val = rsum (r.val &&& (r.val - 1)) + tzb r.val % 2 := by decide +kernel
theorem pop_le : ∀ r : Fin 1024, pop r.val ≤ 10 ∧ hsum r.val ≤ 20 ∧ rsum r.val ≤ 5 := by decide +kernel
theorem sums_zero : pop 0 = 0 ∧ hsum 0 = 0 ∧ rsum 0 = 0 := by decide

def capL (l : Nat) : Nat := 4 * l + 2
/-- A list of pairs out of one number. -/
def decL : Nat → Nat → List T2
  | 0, _ => []
  | k + 1, c => (((c % 400 / 20 : Nat) : Int) - 10, ((c % 20 : Nat) : Int) - 10) :: decL k (c / 400)
/-- The lists of microstates. -/
def lit : Nat → Nat → List T2
  | 0, 0 => decL 1 210
  | 0, 1 => decL 2 84609
  | 0, 2 => decL 1 210
  | 1, 0 => decL 1 210
  | 1, 1 => decL 6 2371315937516589
  | 1, 2 => decL 15 672649433318485018886998123327390475370
  | 1, 3 => decL 20 6916586398102837666811089159331200243788530654308569
  | 1, 4 => decL 15 672649434075341922321172382989342475370
  | 1, 5 => decL 6 2371315937516589
  | 1, 6 => decL 1 210
  | 2, 0 => decL 1 210
  | 2, 1 => decL 10 65961708050550002654308569
  | 2, 2 => decL 45 899616261324492280055131902996686235985535603027039100116129764640214724029172469813054691918602846897872700824059330
  | 2, 3 => decL 120 1377143869884717315889594113689716182513689211765639325069307037917275460504358666418030241199212721782895338794698424017329715455907104505241962395459641646113984181140215800309375776708702284709817699454013582920203883514124064318985762833694502524872194568357481655608318777516435149309707140093412590804684509
  | 2, 4 => decL 210 2239133462281747946700422192942434395071290586687803941249201571795161705504177212949144594304210737353989565162690951406798219050243270278415579401082715880626938587176475860646779750218454757892733108001499200723650988034806182268604468500571408576818384868769338680086593407053879185461627526557108452022215414262847238523743077358739602991523487604819161216383603190724937147089444262124626343426500432032491103179744619443612385858824019571330313709266190916909680107277874886245136333128771984682806620463484324822209090240971881736209643290
  | 2, 5 => decL 252 43447641339330101609733770906066485665261671959482841073317638156890147228932650718515973451290434660670996895832175957907489001947640717731727025725499663786420961260658408939361654975158890383732218564383018713449410191217168883115978340702941409781457586739043127403920364160387494993564334760640213713955296131317681191392497409031475698275887214824016557011032107788867888963405933219266773082200696998676680431932002131611556963058094760726064112656647217144526986765311598836764628158145118670997326271733838054000468921767302751950864977226876151173102753645192957794657122849352910683049888159608808570346816052674639875210562317964608749521476489
  | 2, 6 => decL 210 2239133462281773129544714680340884274200563054664532680586728883647404034676770547575971834560709132423934316850665780835744948847049894487913853848307188810563332690445350720675642936084209421212856076714556153449632416083553479867164801399449968243200334370682184754794477179569963753696178392273098829767994141390234327848413682400624884655151515781754858096399667110864762422064045807780971420609476422914170088891694190861331959454319965479488277229042060432137066213446364919747179617441754761550492353722805846554163355501159918856209643290
  | 2, 7 => decL 120 1377143869888169936126696659966836544646688911526349136627982006955747326707742880287305227540734241130357844124898369335885058697430211276582728648197557666658739284900284670270020836110798765191969723082592218595062426353015960408230121211498274091571191417137342097398916879262165966454082390300174062804684509
  | 2, 8 => decL 45 899616262197100393513772916666217730633430492509537433896973742337867031204699289932276763446614767167369482776059330
  | 2, 9 => decL 10 65961708050550002654308569
  | 2, 10 => decL 1 210
  | _, _ => []
/-- The lists of terms. -/
def trms : Nat → Nat → List T2
  | 0, 0 => [(0, 0)]
  | 0, 1 => [(1, 0)]
  | 0, 2 => [(0, 0)]
  | 1, 0 => [(0, 0)]
  | 1, 1 => [(1, 1)]
  | 1, 2 => [(2, 1), (0, 2), (0, 0)]
  | 1, 3 => [(3, 0), (1, 2), (1, 1)]
  | 1, 4 => [(2, 1), (0, 2), (0, 0)]
  | 1, 5 => [(1, 1)]
  | 1, 6 => [(0, 0)]
  | 2, 0 => [(0, 0)]
  | 2, 1 => [(1, 2)]
  | 2, 2 => [(2, 3), (2, 1), (0, 4), (0, 2), (0, 0)]
  | 2, 3 => [(3, 3), (3, 1), (1, 5), (1, 4), (1, 3), (1, 2), (1, 2), (1, 1)]
  | 2, 4 => [(4, 2), (2, 5), (2, 4), (2, 3), (2, 3), (2, 2), (2, 1), (2, 1), (0, 6), (0, 4), (0, 4), (0, 3), (0, 2), (0, 2), (0, 0), (0, 0)]
  | 2, 5 => [(5, 0), (3, 4), (3, 3), (3, 2), (3, 1), (1, 6), (1, 5), (1, 4), (1, 4), (1, 3), (1, 3), (1, 2), (1, 2), (1, 2), (1, 1), (1, 0)]
  | 2, 6 => [(4, 2), (2, 5), (2, 4), (2, 3), (2, 3), (2, 2), (2, 1), (2, 1), (0, 6), (0, 4), (0, 4), (0, 3), (0, 2), (0, 2), (0, 0), (0, 0)]
  | 2, 7 => [(3, 3), (3, 1), (1, 5), (1, 4), (1, 3), (1, 2), (1, 2), (1, 1)]
  | 2, 8 => [(2, 3), (2, 1), (0, 4), (0, 2), (0, 0)]
  | 2, 9 => [(1, 2)]
  | 2, 10 => [(0, 0)]
  | _, _ => []
theorem lit_0_0 : mst 0 0 4 = lit 0 0 := by decide +kernel
theorem lit_0_1 : mst 0 1 4 = lit 0 1 := by decide +kernel
theorem lit_0_2 : mst 0 2 4 = lit 0 2 := by decide +kernel
theorem lit_1_0 : mst 1 0 64 = lit 1 0 := by decide +kernel
theorem lit_1_1 : mst 1 1 64 = lit 1 1 := by decide +kernel
theorem lit_1_2 : mst 1 2 64 = lit 1 2 := by decide +kernel
theorem lit_1_3 : mst 1 3 64 = lit 1 3 := by decide +kernel
theorem lit_1_4 : mst 1 4 64 = lit 1 4 := by decide +kernel
theorem lit_1_5 : mst 1 5 64 = lit 1 5 := by decide +kernel
theorem lit_1_6 : mst 1 6 64 = lit 1 6 := by decide +kernel
theorem lit_2_0 : mst 2 0 1024 = lit 2 0 := by decide +kernel
theorem lit_2_1 : mst 2 1 1024 = lit 2 1 := by decide +kernel
theorem lit_2_2 : mst 2 2 1024 = lit 2 2 := by decide +kernel
theorem lit_2_3 : mst 2 3 1024 = lit 2 3 := by decide +kernel
theorem lit_2_4 : mst 2 4 1024 = lit 2 4 := by decide +kernel
theorem lit_2_5 : mst 2 5 1024 = lit 2 5 := by decide +kernel
theorem lit_2_6 : mst 2 6 1024 = lit 2 6 := by decide +kernel
theorem lit_2_7 : mst 2 7 1024 = lit 2 7 := by decide +kernel
theorem lit_2_8 : mst 2 8 1024 = lit 2 8 := by decide +kernel
theorem lit_2_9 : mst 2 9 1024 = lit 2 9 := by decide +kernel
theorem lit_2_10 : mst 2 10 1024 = lit 2 10 := by decide +kernel
theorem lit_eq {l n : Nat} (hl : l ≤ 2) (hn : n ≤ capL l) : mst l n (2 ^ capL l) = lit l n := by
  unfold capL at hn ⊢
  have h : l = 0 ∨ l = 1 ∨ l = 2 := by omega
  rcases h with rfl | rfl | rfl
  · have h : n = 0 ∨ n = 1 ∨ n = 2 := by omega
    rcases h with rfl | rfl | rfl
    · exact lit_0_0
    · exact lit_0_1
    · exact lit_0_2
  · have h : n = 0 ∨ n = 1 ∨ n = 2 ∨ n = 3 ∨ n = 4 ∨ n = 5 ∨ n = 6 := by omega
    rcases h with rfl | rfl | rfl | rfl | rfl | rfl | rfl
    · exact lit_1_0
    · exact lit_1_1
    · exact lit_1_2
    · exact lit_1_3
    · exact lit_1_4
    · exact lit_1_5
    · exact lit_1_6
  · have h : n = 0 ∨ n = 1 ∨ n = 2 ∨ n = 3 ∨ n = 4 ∨ n = 5 ∨ n = 6 ∨ n = 7 ∨ n = 8 ∨ n = 9 ∨ n = 10 := by omega
    rcases h with rfl | rfl | rfl | rfl | rfl | rfl | rfl | rfl | rfl | rfl | rfl
    · exact lit_2_0
    · exact lit_2_1
    · exact lit_2_2
    · exact lit_2_3
    · exact lit_2_4
    · exact lit_2_5
    · exact lit_2_6
    · exact lit_2_7
    · exact lit_2_8
    · exact lit_2_9
    · exact lit_2_10
/-- How many microstates have both sums. -/
def cnt (ms : List T2) (o s : Int) : Int := (ms.countP fun t => t == (o, s) : Nat)
theorem cnt_snoc (ms : List T2) (t : T2) (o s : Int) : cnt (ms ++ [t]) o s = cnt ms o s + if t = (o, s) then 1 else 0 := by
  unfold cnt; rw [List.countP_append]; by_cases h : t = (o, s) <;> simp [h]
theorem cnt_bd (ms : List T2) (o s : Int) : 0 ≤ cnt ms o s ∧ cnt ms o s ≤ ms.length := by
  unfold cnt; have := List.countP_le_length (l := ms) (p := fun t => t == (o, s)); omega
/-- The pair (o, s) is one of the pairs of projections of the term (spin, L). -/
def rct (t : T2) (o s : Int) : Bool := decide (-t.2 ≤ o ∧ o ≤ t.2 ∧ -t.1 ≤ s ∧ s ≤ t.1 ∧ (s + t.1) % 2 = 0)
/-- What is left in the table when the terms ts are struck. -/
def lft (l n : Nat) (ts : List T2) (o s : Int) : Int := cnt (lit l n) o s - (ts.countP fun t => rct t o s : Nat)
/-- The terms ahead of the place (spin s, orbit o). -/
def ahd (l n : Nat) (s o : Nat) : List T2 := (trms l n).filter fun t => decide ((s : Int) < t.1 ∨ ((s : Int) = t.1 ∧ (o : Int) < t.2))
def rep (l n : Nat) (s o : Nat) : Nat := (trms l n).countP fun t => t == ((s : Int), (o : Int))
theorem lft_at : ∀ l : Fin 3, ∀ n : Fin 11, n.val ≤ capL l.val → ∀ s o : Fin 9, lft l.val n.val (ahd l.val n.val s.val o.val) (o.val : Int) (s.val : Int) = rep l.val n.val s.val o.val := by decide +kernel
/-- Past a place the terms there are ahead as well. -/
theorem ahd_next : ∀ l : Fin 3, ∀ n : Fin 11, n.val ≤ capL l.val → ∀ s : Fin 9, ∀ o : Fin 8, ahd l.val n.val s.val o.val = ahd l.val n.val s.val (o.val + 1) ++ List.replicate (rep l.val n.val s.val (o.val + 1)) ((s.val : Int), ((o.val + 1 : Nat) : Int)) := by decide +kernel
theorem ahd_row : ∀ l : Fin 3, ∀ n : Fin 11, n.val ≤ capL l.val → ∀ s : Fin 8, ahd l.val n.val s.val 8 = ahd l.val n.val (s.val + 1) 0 ++ List.replicate (rep l.val n.val (s.val + 1) 0) (((s.val + 1 : Nat) : Int), 0) := by decide +kernel
theorem ahd_first : ∀ l : Fin 3, ∀ n : Fin 11, n.val ≤ capL l.val → ahd l.val n.val 8 8 = [] := by decide +kernel
theorem ahd_last : ∀ l : Fin 3, ∀ n : Fin 11, n.val ≤ capL l.val → trms l.val n.val = ahd l.val n.val 0 0 ++ List.replicate (rep l.val n.val 0 0) (0, 0) := by decide +kernel
/-- The reference's count of ways. -/
def ways (l : Int) : Nat → Int → Int → Int → Int
  | 0, n, o, s => if n = 0 ∧ o = 0 ∧ s = 0 then 1 else 0
  | d + 1, n, o, s => if n < 0 ∨ 2 * ((d : Int) + 1) < n then 0 else
      ways l d n o s + ways l d (n - 1) (o - (l - d)) (s - 1) + ways l d (n - 1) (o - (l - d)) (s + 1) + ways l d (n - 2) (o - 2 * (l - d)) s
theorem ways_bd (l : Int) (d : Nat) : ∀ n o s, 0 ≤ ways l d n o s ∧ ways l d n o s ≤ 4 ^ d := by
  induction d with
  | zero => intro n o s; unfold ways; split <;> simp
  | succ d ih =>
    intro n o s
    unfold ways
    have e : (4 : Int) ^ (d + 1) = 4 ^ d * 4 := Int.pow_succ ..
    have h0 : (0 : Int) ≤ 4 ^ d := by have := ih 0 0 0; omega
    split
    · omega
    · have h1 := ih n o s
      have h2 := ih (n - 1) (o - (l - d)) (s - 1)
      have h3 := ih (n - 1) (o - (l - d)) (s + 1)
      have h4 := ih (n - 2) (o - 2 * (l - d)) s
      omega
def mcS (l n : Nat) (o s : Int) : Int := ways l (2 * l + 1) n o s
def tcS (l n : Nat) (o s : Int) : Int := mcS l n o s - mcS l n (o + 1) s - mcS l n o (s + 2) + mcS l n (o + 1) (s + 2)
theorem ahd_row6 : ∀ l : Fin 3, ∀ n : Fin 11, n.val ≤ capL l.val → ∀ s : Fin 6, ahd l.val n.val s.val 8 = ahd l.val n.val s.val 6 := by decide +kernel
theorem ahd_first6 : ∀ l : Fin 3, ∀ n : Fin 11, n.val ≤ capL l.val → ahd l.val n.val 5 6 = [] := by decide +kernel
set_option maxHeartbeats 4000000 in
theorem trms_pos : ∀ l : Fin 3, ∀ n : Fin 11, n.val ≤ capL l.val → 0 < (trms l.val n.val).length ∧ (trms l.val n.val).length ≤ 40 ∧ (trms l.val n.val).all (fun t => decide (0 ≤ t.1 ∧ t.1 ≤ 8 ∧ 0 ≤ t.2 ∧ t.2 ≤ 8)) = true := by decide +kernel
set_option maxHeartbeats 4000000 in
theorem lit_len : ∀ l : Fin 3, ∀ n : Fin 11, n.val ≤ capL l.val → (lit l.val n.val).length ≤ 252 ∧ (lit l.val n.val).all (fun t => decide (-10 ≤ t.1 ∧ t.1 ≤ 10 ∧ -10 ≤ t.2 ∧ t.2 ≤ 10)) = true := by decide +kernel
end Go.Proofs.YtjglgcgkmfbdpaaDoor
