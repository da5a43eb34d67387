/- Left out here. -/
import Derived.Test.YtaaklejkngpddaaGreatTabj
import Derived.Test.YtaaklejkngpddaaGreatTabi
import Derived.Deep.RegionWith
import Derived.Lib.SlBytesConst
