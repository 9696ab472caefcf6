/-
  What the walks of law 19 stand on.
-/
import Derived.Test.YtciogjnchpeaaaaOpenOps
import Derived.Test.YtciogjnchpeaaaaOpenB
import Derived.Test.YtciogjnchpeaaaaLaw18B
import Derived.Test.YtciogjnchpeaaaaQNew
import Derived.Test.YtciogjnchpeaaaaRLF
import Derived.Test.YtciogjnchpeaaaaPredRefChain
import Derived.Test.YtciogjnchpeaaaaPredChain
import Derived.Test.YtciogjnchpeaaaaPredRank
