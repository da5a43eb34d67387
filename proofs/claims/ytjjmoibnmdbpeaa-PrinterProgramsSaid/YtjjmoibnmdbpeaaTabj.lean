/- Left out here. -/
import Derived.Test.YtjjmoibnmdbpeaaTabg
import Derived.Test.YtjjmoibnmdbpeaaTabd
import Derived.Test.YtjjmoibnmdbpeaaTrs
